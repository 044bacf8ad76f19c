/-
  The plain walker: code with blocks, tests, loops, returns; The plain walker: functions; The plain walker: tables of types, checked by reckoning; tables of functions; The plain walker: what a function is given and what it yields, told by plain things.
  Conditions: the closed check codeOk of the drawn regions' edges; the tables of types and of functions are as the program has them; none.
-/
import Derived.Test.YtjjonmhpgkahoaaGreatDoorS07
import Derived.Deep.LoopGhost
set_option linter.unusedSimpArgs false
set_option linter.unusedVariables false
namespace Go.Proofs.YtjjonmhpgkahoaaGreatDoor
namespace Ax
open Go.RowKit
def chk (ρ:List Nat) (h:AH) (n:Nat):Bool:=nodupB ρ&&(Nat.beq ρ.length n&&h.all fun q=>Nat.blt q.1 n&&q.2.idIn (List.range n))
mutual
def sameV:PV→PV→Prop
 | .bt,.b y=>y=true
 | .bf,.b y=>y=false
 | .b x,.b y=>x=y
 | .nb x,.b y=>(!x)=y
 | .i k a,.i k' b=>k=k'∧a=b
 | .s a,.s b=>a=b
 | .tup l,.tup m=>sameL l m
 | .agg l,.agg m=>sameL l m
 | .esl,.rsl _ L=>L=[]
 | p,q=>p=q
def sameL:List PV→List PV→Prop
 | [],[]=>True
 | [p],[q]=>sameV p q
 | p::ps,q::qs=>sameV p q∧sameL ps qs
 | _,_=>False
end
def sameO:Ob→Ob→Prop
 | .cells l ty,.cells m ty'=>sameL l m∧ty=ty'
 | .it l k,.it l' k'=>l=l'∧k=k'
 | o,o'=>o=o'
def obs (ρ:List Nat) (st:AH):AH→Prop→Prop
 | [],r=>r
 | (k,o)::l,r=>(match st.get (look ρ k) with | some x=>sameO x (o.rn (look ρ)) | none=>False)∧obs ρ st l r
def tms (ρ:List Nat) (tm:List PV):List (Nat×PV)→Prop→Prop
 | [],r=>r
 | (t,p)::l,r=>sameV (tm.getD t .dead) (p.rn (look ρ))∧tms ρ tm l r
def keep (n0:Nat) (ρ:List Nat):Bool:=Nat.ble n0 ρ.length&&(List.range n0).all fun k=>Nat.beq (look ρ k) k
def meets (n n0:Nat) (ρ:List Nat) (st:AS) (li:LI) (r:Prop):Prop:=
 (Nat.beq st.tm.length n&&keep n0 ρ&&chk ρ li.h li.nx&&li.tm.all fun q=>q.2.idIn (List.range li.nx))=true∧tms ρ st.tm li.tm (obs ρ st.h li.h r)
abbrev WP:=(AEx→AS→Prop)→AS→Prop
def unr (b:WP):Nat→WP
 | 0,_,_=>False
 | n+1,Q,st=>b (fun e st'=>match e with | .normal =>unr b n Q st' | e=>Q e st') st
inductive LV where
 | s (t:Nat) (k:AtTy) | c (id off:Nat) (k:AtTy) | o (id:Nat) (sh:List AtTy)
@[reducible] def LV.k:LV→AtTy
 | .s _ k=>k
 | .c _ _ k=>k
 | .o _ sh=>.r sh
@[reducible] def St2 (x:Type):List LV→Type
 | []=>x
 | v::r=>x×St2 v.k.Ty r
@[reducible] def St:List LV→Type
 | []=>Unit
 | v::r=>St2 v.k.Ty r
inductive Pt where
 | s (t:Nat) | c (id off:Nat)
def Pt.at (st:AS):Pt→PV
 | .s t=>st.tm.getD t .dead
 | .c id off=>match st.h.get id with
   | some (.cells l _)=>l.getD off .dead
   | some (.it _ k)=>.i .i64 k
   | _=>.dead
def rid:PV→Nat
 | .osl id=>id
 | .ptr id _=>id
 | _=>0
def rhoAt (st st':AS) (k:Nat):List Pt→Nat
 | []=>k
 | p::r=>if Nat.beq (rid (p.at st)) k then rid (p.at st') else rhoAt st st' k r
def rho (st st':AS) (al:List Pt):List Nat:=(List.range st.nx).map fun k=>rhoAt st st' k al
def gI:PV→Int
 | .i _ n=>n
 | _=>0
def gB:PV→Bool
 | .bt =>true
 | .b x=>x
 | .nb x=>!x
 | _=>false
def gS:PV→List UInt8
 | .s l=>l
 | _=>[]
def gR (sh:List AtTy):PV→List (El sh)
 | .rsl sh' L=>(castL sh' sh L).getD []
 | _=>[]
def gv:(t:AtTy)→PV→t.Ty
 | .i _,v=>gI v
 | .b,v=>gB v
 | .s,v=>gS v
 | .r sh,v=>gR sh v
def getO (sh:List AtTy):Option Ob→List (El sh)
 | some (.own sh' L _)=>(castL sh' sh L).getD []
 | some (.arr k _ L _)=>(castL [k] sh L).getD []
 | _=>[]
def get1 (ρ:List Nat) (st:AS):(v:LV)→v.k.Ty
 | .s t k=>gv k (st.tm.getD t .dead)
 | .c id off k=>gv k (Pt.at st (.c (look ρ id) off))
 | .o id sh=>getO sh (st.h.get (look ρ id))
def gets2 (ρ:List Nat) (st:AS) {x:Type} (a:x):(r:List LV)→St2 x r
 | []=>a
 | v::r=>(a,gets2 ρ st (get1 ρ st v) r)
def gets (ρ:List Nat) (st:AS):(vs:List LV)→St vs
 | []=>()
 | v::r=>gets2 ρ st (get1 ρ st v) r
def pvs2 {x:Type} (f:x→PV) (v0:LV):(r:List LV)→St2 x r→List (LV×PV)
 | [],a=>[(v0,f a)]
 | v::r,p=>(v0,f p.1)::pvs2 v.k.pv v r p.2
def pvs:(vs:List LV)→St vs→List (LV×PV)
 | [],_=>[]
 | v::r,s=>pvs2 v.k.pv v r s
def slots:List (LV×PV)→List (Nat×PV)
 | []=>[]
 | (.s t _,p)::r=>(t,p)::slots r
 | _::r=>slots r
def setR (sh:List AtTy) (L:List (El sh)):Ob→Ob
 | .own _ _ ty=>.own sh L ty
 | .arr k n M ty=>match castL sh [k] L with
   | some L'=>.arr k n L' ty
   | none=>.arr k n M ty
 | o=>o
def setO (k:Nat) (o:Ob):List (LV×PV)→Ob
 | []=>o
 | (.c id off _,p)::r=>setO k (if Nat.beq id k then (match o with | .cells l ty=>.cells (l.set off p) ty | .it l _=>.it l (gI p) | o=>o) else o) r
 | (.o id _,.rsl sh L)::r=>setO k (if Nat.beq id k then (setR sh L o) else o) r
 | _::r=>setO k o r
def kept (ds al vt mv:List Nat):Nat→List PV→List (Nat×PV)
 | _,[]=>[]
 | t,.dead ::r=>kept ds al vt mv (t+1) r
 | t,p::r=>if !vt.contains t&&(al.contains t||(!ds.contains t&&p.ids.all fun k=>!mv.contains k)) then (t,p)::kept ds al vt mv (t+1) r else kept ds al vt mv (t+1) r
def ptS:List Pt→List Nat
 | []=>[]
 | .s t::r=>t::ptS r
 | _::r=>ptS r
def keptH (h:AH) (dr:List Nat) (vl:List (LV×PV)):Nat→AH
 | 0=>[]
 | k+1=>if dr.contains k then keptH h dr vl k else match h.get k with
   | some (.gone)=>keptH h dr vl k
   | some o=>(k,setO k o vl)::keptH h dr vl k
   | none=>keptH h dr vl k
def hd (st:AS) (ds:List Nat) (al:List Pt) (dr:List Nat) (vl:List (LV×PV)):LI:=
 ⟨slots vl++kept ds (ptS al) ((slots vl).map (·.1)) (al.map fun p=>rid (p.at st)) 0 st.tm,keptH st.h dr vl st.nx,st.nx⟩
def nil1 (st:AS) (p:Pt) (sh:List AtTy) (ty:TypeId):AS:=match p with
 | .s t=>match st.tm.getD t .dead with
   | .esl =>⟨st.tm.set t (.osl st.nx),(st.nx,.own sh [] ty)::st.h,st.nx+1⟩
   | _=>st
 | .c id off=>match st.h.get id with
   | some (.cells l tc)=>match l.getD off .dead with
     | .esl =>⟨st.tm,(st.nx,.own sh [] ty)::(id,.cells (l.set off (.osl st.nx)) tc)::st.h,st.nx+1⟩
     | _=>st
   | _=>st
def nils:List (Pt×List AtTy×TypeId)→AS→AS
 | [],st=>st
 | (p,sh,ty)::r,st=>nils r (nil1 st p sh ty)
structure Hd (σ:Type) where
 J:σ→Prop
 μ:σ→Nat
 lt:Nat→Nat→Prop
def meet2 (n0:Nat) (ds:List Nat) (al:List Pt) (dr:List Nat) (vs:List LV) (st st':AS) (K:St vs→Prop) (ρ:List Nat) (s:St vs):Prop:=meets st.tm.length n0 ρ st' (hd st ds al dr (pvs vs s)) (K s)
def meet1 (n0:Nat) (ds:List Nat) (al:List Pt) (dr:List Nat) (vs:List LV) (st st':AS) (K:St vs→Prop) (ρ:List Nat):Prop:=meet2 n0 ds al dr vs st st' K ρ (gets ρ st' vs)
def loopB (n0:Nat) (ds:List Nat) (b:WP) (Q:AEx→AS→Prop) (vs:List LV) (al:List Pt) (dr:List Nat) (H:Hd (St vs)) (st:AS):Prop:=
 meet1 n0 ds al dr vs st st (fun s=>H.J s) (List.range st.nx)∧∀s,H.J s→b (fun e st'=>match e with
  | .normal =>meet1 n0 ds al dr vs st st' (fun s'=>H.J s'∧H.lt (H.μ s') (H.μ s)) (rho st st' al)
  | e=>Q e st') ((hd st ds al dr (pvs vs s)).as st.tm.length)
def loopV (n0:Nat) (ds:List Nat) (b:WP) (Q:AEx→AS→Prop) (st0:AS):Prop:=
 ∃(key:Nat) (nw:List (Pt×List AtTy×TypeId)) (vs:List LV) (al:List Pt) (dr:List Nat) (H:Hd (St vs)),Nat.beq key (ds.headD 0)=true∧(∀m n,H.lt m n→m<n)∧loopB n0 ds b Q vs al dr H (nils nw st0)
def loopW (n0:Nat) (ds:List Nat) (b:WP) (Q:AEx→AS→Prop) (st:AS):Prop:=
 (∀_:Unit,unr b 8 Q st)∨loopV n0 ds b Q st
def dsO:List Oper→List Nat
 | []=>[]
 | o::r=>match o.dst with
   | some t=>t::dsO r
   | none=>dsO r
def dsOf:Code→List Nat
 | .region _ ops _=>dsO ops.toList
 | .seq a b=>dsOf a++dsOf b
 | .cond _ a b=>dsOf a++dsOf b
 | .block _ a=>dsOf a
 | .loop a=>dsOf a
 | _=>[]
def setB (st:AS) (x:Operand) (v:PV):AS:=match x with
 | .tmp t=>⟨st.tm.set t v,st.h,st.nx⟩
 | _=>st
def awp (c:Cx):Code→WP
 | .skip,Q,st=>Q .normal st
 | .region id ops draw,Q,st=>regW ⟨c,draw,ops.toList.map (·.dst),st.h⟩ (fun st'=>Q .normal (killS (c.K id) st')) ops.toList 0 [] [] [] st.tm st.nx
 | .seq a b,Q,st=>awp c a (fun e st'=>match e with | .normal =>awp c b Q st' | e=>Q e st') st
 | .cond x t e,Q,st=>match ev st.tm x with
   | .bt =>awp c t Q st
   | .bf =>awp c e Q st
   | .b v=>(v=true→awp c t Q (setB st x .bt))∧(v=false→awp c e Q (setB st x .bf))
   | .nb v=>(v=false→awp c t Q (setB st x .bt))∧(v=true→awp c e Q (setB st x .bf))
   | _=>False
 | .block id body,Q,st=>awp c body (fun e st'=>match e with | .exit k=>if k=id then Q .normal st' else Q (.exit k) st' | e=>Q e st') st
 | .loop body,Q,st=>loopW c.n0 (dsOf body) (awp c body) Q st
 | .exit id,Q,st=>Q (.exit id) st
 | .ret,Q,st=>Q .ret st
 | _,_,_=>False
def codeOk:Code→Bool
 | .region _ ops draw=>!draw||drawOk ops
 | .seq a b=>codeOk a&&codeOk b
 | .cond _ a b=>codeOk a&&codeOk b
 | .block _ a=>codeOk a
 | .loop a=>codeOk a
 | .skip | .exit _ | .ret =>true
 | _=>false
section
variable {w w' w0:World} {e e':Env} {fz:Nat→Prop} {M:Root} {P:Program} {c:Cx} {st:AS} {a:Act}
mutual
theorem same_R : ∀(p q:PV) (v:Value),sameV p q→R w e p v→R w e q v:=by
 intro p q v h hr
 unfold sameV at h
 split at h
 ·subst h;rw [R_bt] at hr;rw [R_b];exact hr
 ·subst h;rw [R_bf] at hr;rw [R_b];exact hr
 ·subst h;exact hr
 ·subst h;rw [R_nb] at hr;rw [R_b];exact hr
 ·obtain⟨rfl,rfl⟩:=h;exact hr
 ·subst h;exact hr
 ·unfold R at *;obtain⟨vs,h1,h2⟩:=hr;exact⟨vs,h1,same_Rs _ _ _ h h2⟩
 ·unfold R at *;obtain⟨vs,h1,h2⟩:=hr;exact⟨vs,h1,same_Rs _ _ _ h h2⟩
 ·subst h;unfold R at *;exact⟨none,0,hr,Nat.le_refl _,fun i x hx=>by simp at hx⟩
 ·subst h;exact hr
theorem same_Rs : ∀(l m:List PV) (vs:List Value),sameL l m→Rs w e l vs→Rs w e m vs:=by
 intro l m vs h hr
 unfold sameL at h
 split at h
 ·exact hr
 ·unfold Rs at *;obtain⟨u,us,h1,h2,h3⟩:=hr;exact⟨u,us,h1,same_R _ _ _ h h2,h3⟩
 ·unfold Rs at *;obtain⟨u,us,h1,h2,h3⟩:=hr;exact⟨u,us,h1,same_R _ _ _ h.1 h2,same_Rs _ _ _ h.2 h3⟩
 ·exact h.elim
end
theorem same_O {o o':Ob} {id:Nat} (h:sameO o o') (hr:OR w e id o):OR w e id o':=by
 unfold sameO at h
 split at h
 ·obtain⟨h1,rfl⟩:=h
  obtain⟨b,vs,h2,h3,h4,h5⟩:=hr
  exact⟨b,vs,h2,h3,h4,same_Rs _ _ _ h1 h5⟩
 ·obtain⟨rfl,rfl⟩:=h;exact hr
 ·subst h;exact hr
theorem same_gn {o o':Ob} (h:sameO o o'):o.gn=o'.gn:=by
 unfold sameO at h
 split at h
 ·rfl
 ·rfl
 ·subst h;rfl
theorem obs_mem {ρ:List Nat} {st:AH} {r:Prop} : ∀{h:AH},obs ρ st h r→r∧∀q∈h,∃x,st.get (look ρ q.1)=some x∧sameO x (q.2.rn (look ρ))
 | [],h=>⟨h,fun q hq=>absurd hq (by simp)⟩
 | (k,o)::l,h=>by
   unfold obs at h
   obtain⟨h1,h2⟩:=h
   obtain⟨h3,h4⟩:=obs_mem h2
   refine⟨h3,fun q hq=>?_⟩
   rcases List.mem_cons.1 hq with rfl | hq
   ·split at h1
    ·rename_i x hx;exact⟨x,hx,h1⟩
    ·exact h1.elim
   ·exact h4 q hq
theorem tms_mem {ρ:List Nat} {tm:List PV} {r:Prop} : ∀{l:List (Nat×PV)},tms ρ tm l r→r∧∀q∈l,sameV (tm.getD q.1 .dead) (q.2.rn (look ρ))
 | [],h=>⟨h,fun q hq=>absurd hq (by simp)⟩
 | (t,p)::l,h=>by
   unfold tms at h
   obtain⟨h1,h2⟩:=h
   obtain⟨h3,h4⟩:=tms_mem h2
   refine⟨h3,fun q hq=>?_⟩
   rcases List.mem_cons.1 hq with rfl | hq
   ·exact h1
   ·exact h4 q hq
theorem get_mem : ∀{h:AH} {k:Nat} {o:Ob},h.get k=some o→(k,o)∈h
 | [],k,o,h=>by simp [AH.get] at h
 | (j,x)::r,k,o,h=>by
   unfold AH.get at h
   split at h
   ·rename_i hj
    cases h
    have : j=k:=by simpa using hj
    subst this
    exact List.mem_cons_self
   ·exact List.mem_cons_of_mem _ (get_mem h)
theorem lookT_mem : ∀{l:List (Nat×PV)} {t:Nat} {p:PV},lookT t l=p→p≠.dead →(t,p)∈l
 | [],t,p,h,hd=>absurd h.symm hd
 | (k,v)::l,t,p,h,hd=>by
   unfold lookT at h
   split at h
   ·rename_i hk
    have : k=t:=by simpa using hk
    subst this;subst h
    exact List.mem_cons_self
   ·exact List.mem_cons_of_mem _ (lookT_mem h hd)
theorem SR.meets {n n0:Nat} {ρ:List Nat} {li:LI} {r:Prop} (hn0:M.n=n0) (hs:SR w0 fz M st a w e) (hm:Ax.meets n n0 ρ st li r):r∧∃e',SR w0 fz M (li.as n) a w e':=by
 obtain⟨hck,hm⟩:=hm
 obtain⟨h1,h2⟩:=tms_mem hm
 obtain⟨hr,h3⟩:=obs_mem h1
 unfold chk at hck
 simp only [Bool.and_eq_true,List.all_eq_true,Nat.blt_eq] at hck
 obtain⟨⟨⟨hn,hkeep⟩,hnd,hlen,hob⟩,htm⟩:=hck
 have hn:st.tm.length=n:=by simpa using hn
 subst hn
 have hlen:ρ.length=li.nx:=by simpa using hlen
 have hrn:=e.rn_ok (look ρ) li.nx
 refine⟨hr,e.rn (look ρ) li.nx,?_,?_,?_,fun id h=>⟨h.1,hs.lo _ h.2⟩,fun id h=>h.1,?_,fun k b h hb=>hs.bd (look ρ k) b h.2 hb,⟨hs.ez.sub,hs.ez.sup,fun k b h hb=>hs.ez.nf (look ρ k) b h.2 hb⟩,hs.fzb,hs.low,fun k hk ho=>?_,hs.defers⟩
 ·rw [hs.size];simp [LI.as]
 ·intro t p hp
  simp only [LI.as,List.getElem?_map,Option.map_eq_some_iff] at hp
  obtain⟨t',ht,h4⟩:=hp
  obtain⟨hlt,heq⟩:=List.getElem?_eq_some_iff.1 ht
  have heq:t=t':=by simpa using heq
  subst heq
  by_cases hd:p=.dead
  ·subst hd;unfold R;trivial
  ·have hmem:=lookT_mem h4 hd
   have h5:=h2 _ hmem
   exact R_rn hrn p _ (htm _ hmem) (same_R _ _ _ h5 (ev_R hs.tm (.tmp t)))
 ·intro id o hid
  have hmem:=get_mem hid
  obtain⟨h4,h5⟩:=hob _ hmem
  obtain⟨x,hx,hxo⟩:=h3 _ hmem
  obtain⟨h6,h7,h8⟩:=hs.ob _ _ hx
  exact⟨OR_rn hrn h5 (same_O hxo h6),⟨h4,h7⟩,fun hg=>⟨h4,h8 (by rw [same_gn hxo,rnO_gn];exact hg)⟩⟩
 ·intro k k' b hk hk' hb hb'
  exact look_inj hnd (by rw [hlen];exact hk.1) (by rw [hlen];exact hk'.1) (hs.dis _ _ b hk.2 hk'.2 hb hb')
 ·unfold keep at hkeep
  simp only [Bool.and_eq_true,Nat.ble_eq,List.all_eq_true,List.mem_range] at hkeep
  have hk1:look ρ k=k:=Nat.eq_of_beq_eq_true (hkeep.2 k (by omega))
  obtain⟨q1,q2,q3,q4⟩:=hs.root k hk ho
  refine⟨⟨by omega,by rw [hk1];exact q1⟩,?_,?_,?_⟩
  ·show e.adr (look ρ k)=_;rw [hk1];exact q2
  ·show e.cap (look ρ k)=_;rw [hk1];exact q3
  ·show e.len (look ρ k)=_;rw [hk1];exact q4
theorem SR.setB (hs:SR w0 fz M st a w e) {x:Operand} {p q:PV} (hx:ev st.tm x=p) (hq : ∀u,R w e p u→R w e q u):SR w0 fz M (setB st x q) a w e:=by
 cases x with
 | tmp t=>exact hs.refine_ hx hq
 | const v=>exact hs
 | global g=>exact hs
 | func f=>exact hs
def AQ (w0:World) (fz:Nat→Prop) (M:Root) (Q:AEx→AS→Prop):Exit→Act→World→Prop
 | .normal,a,w=>∃st e,SR w0 fz M st a w e∧Q .normal st
 | .exit id,a,w=>∃st e,SR w0 fz M st a w e∧Q (.exit id) st
 | .ret,a,w=>∃st e,SR w0 fz M st a w e∧Q .ret st
 | _,_,_=>False
def WOk (P:Program) (w0:World) (fz:Nat→Prop) (M:Root) (body:Code) (b:WP):Prop:=∀(Q:AEx→AS→Prop) (st:AS) (a:Act) (w:World) (e:Env),b Q st→SR w0 fz M st a w e→body.wp P (AQ w0 fz M Q) a w
theorem SR.nilp_ (hs:SR w0 fz M st a w e) {sh:List AtTy} {ty:TypeId} {tm:List PV} {x:AH} (htl:tm.length=st.tm.length)
 (htm : ∀e',e.Le e'→e'.fz=e.fz→e'.on st.nx→e'.adr st.nx=none∧e'.len st.nx=0∧e'.cap st.nx=0→∀(t:Nat) (p:PV),tm[t]? =some p→st.tm[t]? =some p∨R w e' p (a.tmps.getD t undef))
 (hx : ∀e',e.Le e'→e'.fz=e.fz→e'.on st.nx→e'.adr st.nx=none∧e'.len st.nx=0∧e'.cap st.nx=0→∀id o,x.get id=some o→st.h.get id=some o∨OR w e' id o∧e.on id∧e.lv id) :
 ∃e',SR w0 fz M ⟨tm,(st.nx,.own sh [] ty)::x,st.nx+1⟩ a w e':=by
 have hno : ¬e.on st.nx:=fun h=>absurd (hs.lt _ h) (Nat.lt_irrefl _)
 obtain⟨E,hE⟩ : ∃E:Env,E={ e with adr:=fun k=>if k=st.nx then none else e.adr k,cap:=fun k=>if k=st.nx then 0 else e.cap k,len:=fun k=>if k=st.nx then 0 else e.len k,on:=fun k=>e.on k∨k=st.nx,lv:=fun k=>e.lv k∨k=st.nx }:=⟨_,rfl⟩
 have hne : ∀k,e.on k→k≠st.nx:=fun k hk h=>hno (h ▸ hk)
 have hle:e.Le E:=by
  subst hE
  exact⟨fun _ h=>.inl h,fun k hk=>if_neg (hne k hk),fun k hk=>if_neg (hne k hk),fun k hk=>if_neg (hne k hk),fun _ h=>h⟩
 have hz:E.adr st.nx=none∧E.len st.nx=0∧E.cap st.nx=0:=by subst hE;exact⟨if_pos rfl,if_pos rfl,if_pos rfl⟩
 have hon:E.on st.nx:=by subst hE;exact .inr rfl
 have hblk : ∀k b,E.blk k b→k≠st.nx∧e.blk k b:=fun k b hb=>by
  obtain⟨y,hy,hb⟩:=hb
  have hk:k≠st.nx:=fun h=>by subst h;rw [hz.1] at hy;cases hy
  refine⟨hk,y,?_,hb⟩
  subst hE
  simpa [hk] using hy
 have hlv : ∀k,k≠st.nx→E.lv k→e.lv k:=fun k hk h=>by subst hE;exact h.resolve_right hk
 have hfz:E.fz=e.fz:=by subst hE;rfl
 refine⟨E,by rw [hs.size];exact htl.symm,?_,?_,?_,?_,?_,?_,⟨fun b h=>by rw [hfz];exact hs.ez.sub b h,fun b h=>by rw [hfz] at h;exact hs.ez.sup b h,fun k b h hb=>by rw [hfz];obtain⟨n1,hb⟩:=hblk k b hb;exact hs.ez.nf k b (hlv k n1 h) hb⟩,hs.fzb,hs.low,root_le hs.root hle,hs.defers⟩
 ·intro t p hp
  rcases htm E hle hfz hon hz t p hp with h | h
  ·exact R_mono (w:=w) (w':=w) (fun _ _=>rfl) hle p _ (hs.tm t p h)
  ·exact h
 ·intro id o hid
  have e1:AH.get ((st.nx,.own sh [] ty)::x) id=if st.nx==id then some (.own sh [] ty) else x.get id:=rfl
  have hid:AH.get ((st.nx,.own sh [] ty)::x) id=some o:=hid
  rw [e1] at hid
  by_cases hk:st.nx=id
  ·subst hk
   rw [if_pos (by simp)] at hid
   cases hid
   exact⟨⟨hz.2.1,.inl ⟨hz.1,rfl,hz.2.2⟩⟩,hon,fun _=>by subst hE;exact .inr rfl⟩
  ·rw [if_neg (by simpa using hk)] at hid
   rcases hx E hle hfz hon hz id o hid with h | ⟨h1,h2,h3⟩
   ·obtain⟨h1,h2,h3⟩:=hs.ob id o h
    refine⟨OR_mono (w:=w) (w':=w) (fun _ _=>rfl) hle h2 (fun b _=>⟨fun h=>by rw [hfz] at h;exact h,rfl⟩) h1,hle.on _ h2,fun hg=>by subst hE;exact .inl (h3 hg)⟩
   ·exact⟨h1,hle.on _ h2,fun _=>by subst hE;exact .inl h3⟩
 ·intro k hk
  subst hE
  exact hk.imp_left (hs.lo k)
 ·intro k hk
  show k<st.nx+1
  subst hE
  rcases hk with hk | rfl
  ·have:=hs.lt k hk;omega
  ·omega
 ·intro k k' b hk hk' hb hb'
  obtain⟨n1,hb⟩:=hblk k b hb
  obtain⟨n2,hb'⟩:=hblk k' b hb'
  exact hs.dis k k' b (hlv k n1 hk) (hlv k' n2 hk') hb hb'
 ·intro k b hk hb
  obtain⟨n1,hb⟩:=hblk k b hb
  exact hs.bd k b (hlv k n1 hk) hb
theorem SR.nil1 (hs:SR w0 fz M st a w e) (p:Pt) (sh:List AtTy) (ty:TypeId) : ∃e',SR w0 fz M (Ax.nil1 st p sh ty) a w e':=by
 have hval : ∀{e':Env} {u:Value},e'.on st.nx→e'.adr st.nx=none∧e'.len st.nx=0∧e'.cap st.nx=0→R w e .esl u→R w e' (.osl st.nx) u:=fun {e' u} h1 h2 h=>by
  unfold R at h ⊢
  obtain⟨h3,h4,h5⟩:=h2
  rw [h3,h4,h5]
  exact⟨h1,h⟩
 cases p with
 | s t=>
   unfold Ax.nil1
   simp only
   split
   ·rename_i ht
    refine hs.nilp_ (by simp) (fun e' _ _ hon hz s r hr=>?_) fun e' _ _ _ _ id o h=>.inl h
    rw [List.getElem?_set] at hr
    split at hr
    ·rename_i hts
     subst hts
     split at hr
     ·cases hr
      right
      refine hval hon hz ?_
      have:=ev_R hs.tm (.tmp t)
      change R w e (st.tm.getD t .dead) (a.tmps.getD t undef) at this
      rwa [ht] at this
     ·cases hr
    ·exact .inl hr
   ·exact⟨e,hs⟩
 | c id off=>
   unfold Ax.nil1
   simp only
   split
   ·rename_i l tc hg
    split
    ·rename_i hl
     refine hs.nilp_ rfl (fun e' _ _ _ _ t p h=>.inl h) fun e' hle hf hon hz k o hk=>?_
     have e1:AH.get ((id,.cells (l.set off (.osl st.nx)) tc)::st.h) k=if id==k then some (.cells (l.set off (.osl st.nx)) tc) else st.h.get k:=rfl
     rw [e1] at hk
     split at hk
     ·rename_i hik
      have hik:id=k:=by simpa using hik
      subst hik
      cases hk
      obtain⟨h1,h2,h3⟩:=hs.ob id _ hg
      obtain⟨b,vs,q1,q2,q3,q4⟩:=h1
      refine .inr ⟨⟨b,vs,by rw [hle.adr id h2];exact q1,fun h=>q2 (by rw [hf] at h;exact h),q3,Rs_of (by rw [List.length_set];exact Rs_length q4) fun i p u hp hu=>?_⟩,h2,h3 rfl⟩
      rw [List.getElem?_set] at hp
      split at hp
      ·rename_i hoi
       subst hoi
       split at hp
       ·rename_i hlt
        cases hp
        rw [List.getD_eq_getElem?_getD,List.getElem?_eq_getElem hlt] at hl
        obtain⟨v,hv,hr⟩:=Rs_get q4 (List.getElem?_eq_getElem hlt)
        rw [hu] at hv
        cases hv
        exact hval hon hz (by have hl:l[off]=.esl :=hl;rwa [hl] at hr)
       ·cases hp
      ·obtain⟨v,hv,hr⟩:=Rs_get q4 hp
       rw [hu] at hv
       cases hv
       exact R_mono (w:=w) (w':=w) (fun _ _=>rfl) hle p _ hr
     ·exact .inl hk
    ·exact⟨e,hs⟩
   ·exact⟨e,hs⟩
theorem SR.nils (hs:SR w0 fz M st a w e) : ∀nw:List (Pt×List AtTy×TypeId),∃e',SR w0 fz M (Ax.nils nw st) a w e':=by
 intro nw
 induction nw generalizing st e with
 | nil=>exact⟨e,hs⟩
 | cons x r ih=>
   obtain⟨p,sh,ty⟩:=x
   obtain⟨e',h⟩:=hs.nil1 p sh ty
   exact ih h
theorem loop_ok {body:Code} {b:WP} {n0:Nat} {ds:List Nat} (hn0:M.n=n0) (hb:WOk P w0 fz M body b):WOk P w0 fz M (.loop body) (loopW n0 ds b):=by
 intro Q st a w e h hs
 rcases h with h | ⟨-,nw,vs,al,dr,H, -,hlt,h⟩
 ·refine wp_loop_ghost (fun k a' w'=>∃st' e',SR w0 fz M st' a' w' e'∧unr b k Q st') 8 ⟨st,e,hs,h ()⟩ ?_
  rintro k a' w' ⟨st',e',hs',hu⟩
  cases k with
  | zero=>exact hu.elim
  | succ k=>
    unfold unr at hu
    refine wp_mono (hb _ st' a' w' e' hu hs') ?_
    intro x a'' w'' hq
    cases x with
    | normal=>
      obtain⟨st2,e2,h3,h4⟩:=hq
      exact⟨k,Nat.lt_succ_self k,st2,e2,h3,h4⟩
    | exit id=>exact hq
    | ret=>exact hq
    | goto l=>exact hq.elim
    | panic ch=>exact hq.elim
    | outgrown=>exact hq.elim
 ·obtain⟨e1,hs1⟩:=hs.nils nw
  generalize Ax.nils nw st=st1 at h hs1
  obtain⟨h0,h1⟩:=h
  refine wp_loop_ghost (fun k a' w'=>∃s e',H.J s∧H.μ s=k∧SR w0 fz M ((hd st1 ds al dr (pvs vs s)).as st1.tm.length) a' w' e') (H.μ (gets (List.range st1.nx) st1 vs)) ?_ ?_
  ·obtain⟨hJ,e',h2⟩:=SR.meets hn0 hs1 h0
   exact⟨_,e',hJ,rfl,h2⟩
  ·rintro k a' w' ⟨s,e',hJ,rfl,hs'⟩
   refine wp_mono (hb _ _ a' w' e' (h1 s hJ) hs') ?_
   intro y a'' w'' hq
   cases y with
   | normal=>
     obtain⟨st2,e2,h4,h5⟩:=hq
     obtain⟨⟨h6,h7⟩,e3,h8⟩:=SR.meets hn0 h4 h5
     exact⟨_,hlt _ _ h7,_,e3,h6,rfl,h8⟩
   | exit id=>exact hq
   | ret=>exact hq
   | goto l=>exact hq.elim
   | panic ch=>exact hq.elim
   | outgrown=>exact hq.elim
theorem killT_len : ∀(l:List Nat) (tm:List PV),(killT l tm).length =tm.length
 | [],_=>rfl
 | t::r,tm=>by unfold killT;rw [killT_len r];exact List.length_set
theorem killT_at : ∀(l:List Nat) (tm:List PV) (t:Nat) (p:PV),(killT l tm)[t]? =some p→p=.dead ∨tm[t]? =some p
 | [],_,_,_,h=>.inr h
 | u::r,tm,t,p,h=>by
   rcases killT_at r _ t p h with h1 | h1
   ·exact .inl h1
   ·rw [List.getElem?_set] at h1
    split at h1
    ·split at h1
     ·cases h1;exact .inl rfl
     ·cases h1
    ·exact .inr h1
theorem rmO_ne {k j:Nat} (hne:j≠k) : ∀h:AH,(rmO k h).get j=h.get j
 | []=>rfl
 | (i,o)::r=>by
   unfold rmO
   cases hb:Nat.beq i k with
   | true=>
     have hi:i=k:=Nat.eq_of_beq_eq_true hb
     rw [if_pos rfl,rmO_ne hne r]
     conv=>rhs;unfold AH.get
     rw [if_neg (by simp;omega)]
   | false=>
     rw [if_neg (by decide)]
     unfold AH.get
     rw [rmO_ne hne r]
theorem cmpH_get (j:Nat) : ∀h:AH,(cmpH h).get j=h.get j
 | []=>rfl
 | (k,o)::r=>by
   unfold cmpH AH.get
   by_cases h:k=j
   ·subst h;simp
   ·have h1:(k==j)=false:=beq_eq_false_iff_ne.2 h
    rw [h1]
    show AH.get (rmO k (cmpH r)) j=AH.get r j
    rw [rmO_ne (fun e=>h e.symm),cmpH_get j r]
theorem SR.kill (hs:SR w0 fz M st a w e) : ∀l,SR w0 fz M (killS l st) a w e
 | []=>hs
 | t::r=>by
   refine⟨?_,fun u p hp=>?_,fun id o ho=>hs.ob id o ?_,hs.lo,hs.lt,hs.dis,hs.bd,hs.ez,hs.fzb,hs.low,hs.root,hs.defers⟩
   ·rw [hs.size];exact (killT_len (t::r) st.tm).symm
   ·rcases killT_at _ _ u p hp with h1 | h1
    ·subst h1;unfold R;trivial
    ·exact hs.tm u p h1
   ·rw [←cmpH_get id st.h];exact ho
theorem awp_ok (hc:CxOk P c) (hm:P.follows .mixedOrders =true) (hn0:M.n=c.n0) : ∀(body:Code),codeOk body=true→WOk P w0 fz M body (awp c body)
 | .skip,_=>fun Q st a w e h hs=>wp_skip ⟨st,e,hs,h⟩
 | .exit id,_=>fun Q st a w e h hs=>wp_exit ⟨st,e,hs,h⟩
 | .ret,_=>fun Q st a w e h hs=>wp_ret ⟨st,e,hs,h⟩
 | .region id ops draw,hk=>fun Q st a w e h hs=>by
   unfold awp at h
   cases draw with
   | true=>exact region_draw hc hm (by unfold codeOk at hk;simpa using hk) (fun st a w e h hs=>⟨_,e,hs.kill (c.K id),h⟩) h hs
   | false=>exact wp_region_list (regW_seq (g:=⟨c,false,ops.toList.map (·.dst),st.h⟩) hc rfl rfl (fun st a w e h hs=>⟨_,e,hs.kill (c.K id),h⟩) _ _ _ _ _ _ _ _ _ e h hs)
 | .seq x y,hk=>fun Q st a w e h hs=>by
   unfold codeOk at hk
   rw [Bool.and_eq_true] at hk
   unfold awp at h
   refine wp_seq (wp_mono (awp_ok hc hm hn0 x hk.1 _ st a w e h hs) ?_)
   intro x' a' w' hq
   cases x' with
   | normal=>obtain⟨st',e',h1,h2⟩:=hq;exact awp_ok hc hm hn0 y hk.2 Q st' a' w' e' h2 h1
   | exit id=>exact hq
   | ret=>exact hq
   | goto l=>exact hq.elim
   | panic ch=>exact hq.elim
   | outgrown=>exact hq.elim
 | .cond x t f,hk=>fun Q st a w e h hs=>by
   unfold codeOk at hk
   rw [Bool.and_eq_true] at hk
   unfold awp at h
   have hx:=ev_R hs.tm x
   split at h
   ·rename_i hv
    rw [hv,R_bt] at hx
    exact wp_cond_true hx (awp_ok hc hm hn0 t hk.1 Q st a w e h hs)
   ·rename_i hv
    rw [hv,R_bf] at hx
    exact wp_cond_false hx (awp_ok hc hm hn0 f hk.2 Q st a w e h hs)
   ·rename_i v hv
    rw [hv,R_b] at hx
    cases v
    ·exact wp_cond_false hx (awp_ok hc hm hn0 f hk.2 Q _ a w e (h.2 rfl) (hs.setB hv (R_lit (x:=false) rfl)))
    ·exact wp_cond_true hx (awp_ok hc hm hn0 t hk.1 Q _ a w e (h.1 rfl) (hs.setB hv (R_lit (x:=true) rfl)))
   ·rename_i v hv
    rw [hv,R_nb] at hx
    cases v
    ·exact wp_cond_true hx (awp_ok hc hm hn0 t hk.1 Q _ a w e (h.1 rfl) (hs.setB hv (R_lit (x:=true) rfl)))
    ·exact wp_cond_false hx (awp_ok hc hm hn0 f hk.2 Q _ a w e (h.2 rfl) (hs.setB hv (R_lit (x:=false) rfl)))
   ·exact h.elim
 | .block id body,hk=>fun Q st a w e h hs=>by
   unfold codeOk at hk
   unfold awp at h
   refine wp_block (wp_mono (awp_ok hc hm hn0 body hk _ st a w e h hs) ?_)
   intro x' a' w' hq
   cases x' with
   | normal=>exact hq
   | exit k=>
     obtain⟨st',e',h1,h2⟩:=hq
     unfold Exit.inBlock
     simp only at h2 ⊢
     split
     ·rename_i hk';rw [if_pos hk'] at h2;exact⟨st',e',h1,h2⟩
     ·rename_i hk';rw [if_neg hk'] at h2;exact⟨st',e',h1,h2⟩
   | ret=>exact hq
   | goto l=>exact hq.elim
   | panic ch=>exact hq.elim
   | outgrown=>exact hq.elim
 | .loop body,hk=>fun Q st a w e h hs=>by
   unfold codeOk at hk
   unfold awp at h
   exact loop_ok hn0 (awp_ok hc hm hn0 body hk) Q st a w e h hs
 | .rangeFunc _ _ _ _,hk=>by unfold codeOk at hk;cases hk
 | .scope _,hk=>by unfold codeOk at hk;cases hk
 | .label _,hk=>by unfold codeOk at hk;cases hk
 | .goto _,hk=>by unfold codeOk at hk;cases hk
 | .refuse _,hk=>by unfold codeOk at hk;cases hk
end
end Ax
namespace Ax
open Go.RowKit
def res1 (c:Cx) (st:AS):ResultVar→Option PV
 | .tmp t=>some (st.tm.getD t .dead)
 | .cell a ty=>match c.T ty,st.tm.getD a .dead with
   | some ti,.ptr id off=>match st.h.get id with
     | some (.cells l _)=>ldC ti l off
     | some (.arr k (some n) L _)=>match off,arrOf c ty with
       | 0,some (m,_)=>if Nat.beq n m then some (.arr k n L) else none
       | _,_=>none
     | _=>none
   | _,_=>none
def resL (c:Cx) (st:AS):List ResultVar→Option (List PV)
 | []=>some []
 | r::rs=>match res1 c st r,resL c st rs with
   | some v,some l=>some (v::l)
   | _,_=>none
def tupOf:List PV→PV
 | [v]=>v
 | l=>.tup l
def full (h:AH) (n:Nat):Bool:=(List.range n).all fun k=>(h.get k).isSome
def retP (c:Cx) (st:AS) (l:List PV) (out:Out) (ρ:List Nat):Prop:=(keep c.n0 ρ&&chk ρ out.eff ρ.length&&(full out.eff ρ.length&&out.v.idIn (List.range ρ.length)))=true∧obs ρ st.h out.eff (sameV (tupOf l) (out.v.rn (look ρ)))
def retQ (c:Cx) (rs:List ResultVar) (out:Out):AEx→AS→Prop
 | .exit _,_=>False
 | _,st=>match resL c st rs with
   | some l=>retP c st l out (reach st.h 60 (List.range c.n0++idsL l) [])
   | none=>False
mutual
theorem rn_id : ∀p:PV,p.rn id=p
 | .bt | .bf | .b _ | .nb _ | .i _ _ | .s _ | .nilp | .esl | .rsl _ _ | .arr _ _ _ | .nx _ _ | .raw _ | .dead =>by unfold PV.rn;rfl
 | .ptr _ _=>by unfold PV.rn;rfl
 | .osl _=>by unfold PV.rn;rfl
 | .eptr _ _ _ _=>by unfold PV.rn;rfl
 | .osub _ _=>by unfold PV.rn;rfl
 | .rptr l o=>by unfold PV.rn;rw [rnL_id l]
 | .agg l=>by unfold PV.rn;rw [rnL_id l]
 | .tup l=>by unfold PV.rn;rw [rnL_id l]
 | .fn f l=>by unfold PV.rn;rw [rnL_id l]
theorem rnL_id : ∀l:List PV,rnL id l=l
 | []=>by unfold rnL;rfl
 | p::ps=>by unfold rnL;rw [rn_id p,rnL_id ps]
end
section
variable {P:Program} {c:Cx} {w w0:World} {e:Env} {fz:Nat→Prop} {M:Root} {st:AS} {a:Act}
def rv (tmps:Array Value):ResultVar→Sem Value
 | .tmp t=>pure (tmps.getD t undef)
 | .cell x t=>do loadVar t (←asAddr (tmps.getD x undef))
theorem results_eq (fn:Func) (tmps:Array Value):results fn tmps=(do let vs ←fn.results.mapM (rv tmps);pure (if h:vs.size=1 then vs[0] else .tuple vs)):=by
 unfold results
 congr 2
theorem res_run (hc:CxOk P c) (hs:SR w0 fz M st a w e) : ∀(rs:List ResultVar) (l:List PV),resL c st rs=some l→∃vs:List Value,
 (rs.mapM (rv a.tmps)).run P w=.ok vs w∧Rs w e l vs
 | [],l,h=>by
   simp only [resL,Option.some.injEq] at h
   subst h
   exact⟨[],rfl,by unfold Rs;rfl⟩
 | r::rs,l,h=>by
   unfold resL at h
   split at h
   ·rename_i v l' hv hl
    cases h
    obtain⟨vs,h1,h2⟩:=res_run hc hs rs l' hl
    have h3 : ∃u,(rv a.tmps r).run P w=.ok u w∧R w e v u:=by
     unfold res1 at hv
     split at hv
     ·rename_i t
      cases hv
      exact⟨_,rfl,ev_R hs.tm (.tmp t)⟩
     ·rename_i x ty
      split at hv
      ·rename_i ti id off ht hx
       split at hv
       ·rename_i lc ty' hg
        have hx':=ev_R hs.tm (.tmp x)
        change R w e (st.tm.getD x .dead) (a.tmps.getD x undef) at hx'
        rw [hx] at hx'
        unfold R at hx'
        obtain⟨-,b,h4,h5⟩:=hx'
        obtain⟨⟨b',cs,h6,h7,h8,h9⟩, -⟩:=hs.ob _ _ hg
        rw [h4] at h6
        cases h6
        obtain⟨u,h10,h11⟩:=load_at (hc.T ty ti ht) h9 (at_row h8) hv
        rw [Nat.zero_add] at h10
        exact⟨u,by show (do loadVar ty (←asAddr (a.tmps.getD x undef)):Sem Value).run P w=_;rw [h5];simp [asAddr,h10],h11⟩
       ·rename_i k n L ty' hg
        have hx':=ev_R hs.tm (.tmp x)
        change R w e (st.tm.getD x .dead) (a.tmps.getD x undef) at hx'
        rw [hx] at hx'
        unfold R at hx'
        obtain⟨-,b,h4,h5⟩:=hx'
        split at hv
        ·rename_i m k' hm
         split at hv
         ·rename_i hnm
          have hnm:=Nat.eq_of_beq_eq_true hnm
          subst hnm
          cases hv
          obtain⟨ti',te,ht',hn,hke,hzl,hza,hu,hag⟩:=arrOf_ok hc hm
          rw [ht] at ht'
          cases ht'
          obtain⟨⟨hfl,h0,b',vs,fr,h3,h4',h6,h7,h8,h8',h9,h10⟩, -⟩:=hs.ob _ _ hg
          rw [h4] at h3
          cases h3
          obtain⟨q1,q2⟩:=h9 n rfl
          obtain⟨r1,r2⟩:=arr_at (e:=e) hfl h6 h10
          obtain⟨u,hu',hR⟩:=load_at (off:=0) (hc.T ty _ ht) r1 r2 (p:=.agg (L.map k.pv)) (by
           unfold ldC
           simp [hn,hag,q1,List.take_of_length_le])
          rw [Nat.zero_add] at hu'
          refine⟨u,by show (do loadVar ty (←asAddr (a.tmps.getD x undef)):Sem Value).run P w=_;rw [h5];simp [asAddr,hu'],?_⟩
          unfold R at hR ⊢
          obtain⟨vs',rfl,h12⟩:=hR
          refine⟨hfl,q1,?_⟩
          rw [←(pvs_val hfl).1 h12]
         ·cases hv
        ·cases hv
       ·cases hv
      ·cases hv
    obtain⟨u,h4,h5⟩:=h3
    refine⟨u::vs,?_,by unfold Rs;exact⟨u,vs,rfl,h5,h2⟩⟩
    rw [List.mapM_cons,Sem.run_bind,h4,Result.andThen_ok,Sem.run_bind,h1]
    rfl
   ·cases h
theorem results_run (hc:CxOk P c) (hs:SR w0 fz M st a w e) {fn:Func} {l:List PV} (h:resL c st fn.results.toList=some l) : ∃v,(results fn a.tmps).run P w=.ok v w∧R w e (tupOf l) v:=by
 obtain⟨vs,h1,h2⟩:=res_run hc hs _ _ h
 have hlen:=Rs_length h2
 have key:(results fn a.tmps).run P w=.ok (if h:vs.toArray.size=1 then vs.toArray[0] else .tuple vs.toArray) w:=by
  rw [results_eq,Array.mapM_eq_mapM_toList,Sem.run_bind,Sem.run_map,h1]
  rfl
 refine⟨_,key,?_⟩
 unfold tupOf
 split
 ·rename_i v
  unfold Rs at h2
  obtain⟨u,us,rfl,h4,h5⟩:=h2
  unfold Rs at h5
  subst h5
  exact h4
 ·rename_i hne
  rw [dif_neg]
  ·unfold R;exact⟨_,rfl,by simpa using h2⟩
  ·intro h1
   have : l.length=1:=by rw [←hlen];simpa using h1
   obtain⟨v,rfl⟩:=List.length_eq_one_iff.1 this
   exact hne v rfl
theorem run_awpG (hc:CxOk P c) (hm:P.follows .mixedOrders =true) {f:FuncId} {fn:Func} {body:Code} (hf:P.funcs[f]? =some fn) (hb:fn.body=some body) (hck:codeOk body=true) {H:AH} {args:List PV} (hn0:c.n0=H.length)
 {e:Env} {vals:Array Value} (hz:FzW w e.fz) (hob : ∀id o,H.get id=some o→OR w e id o∧e.on id) (hon : ∀k,e.on k↔k<H.length) (hlv : ∀k,e.lv k↔k<H.length) (hbd : ∀k b,e.on k→e.blk k b→b<w.heap.size∧¬e.fz b)
 (hdis : ∀k k' b,e.on k→e.on k'→e.blk k b→e.blk k' b→k=k') (hl0:Rs w e args vals.toList)
 {Qr:AEx→AS→Prop} {Pf:Ending→World→Prop} (hx : ∀id st,¬Qr (.exit id) st)
 (hr : ∀ex st e1 a' w',Qr ex st→SR w e.fz ⟨fun b=>∃k,e.on k∧e.blk k b,H.length,e,[]⟩ st a' w' e1→a'.defers=[]∧∃v,(results fn a'.tmps).run P w'=.ok v w'∧Pf (.returned v) w')
 (h2:awp c body Qr ⟨args++List.replicate (fn.ntmps-args.length) .dead,H,H.length⟩):Calls P f vals w Pf:=by
 have hlen:=Rs_length hl0
 obtain⟨M,hM⟩ : ∃M:Root,M=⟨fun b=>∃k,e.on k∧e.blk k b,H.length,e,[]⟩:=⟨_,rfl⟩
 have hlo : ∀k,e.lv k→e.on k:=fun k hk=>(hon k).2 ((hlv k).1 hk)
 have hMn:M.n=c.n0:=by rw [hM,hn0]
 have hsr:SR w e.fz M ⟨args++List.replicate (fn.ntmps-args.length) .dead,H,H.length⟩ { tmps:=vals++Array.replicate (fn.ntmps-vals.size) undef,defers:=[] } w e:=by
  have hsz:vals.size=args.length:=by rw [←hlen];simp
  refine⟨by simp [hsz],fun t p hp=>?_,fun id o h=>⟨(hob id o h).1,(hob id o h).2,fun _=>(hlv id).2 ((hon id).1 (hob id o h).2)⟩,hlo,fun id hid=>(hon id).1 hid,fun k k' b hk hk'=>hdis k k' b (hlo k hk) (hlo k' hk'),fun k b hk hb=>⟨.inr (by subst hM;exact⟨k,hlo k hk,hb⟩),(hbd k b (hlo k hk) hb).1⟩,⟨fun _ h=>h,fun _ h=>.inl h,fun k b hk hb=>(hbd k b (hlo k hk) hb).2⟩,⟨fun b hb=>⟨hz.lt b hb,by subst hM;rintro ⟨k,hk,hkb⟩;exact (hbd k b hk hkb).2 hb⟩,hz.gl⟩,Chg.refl _ _,by subst hM;exact fun k _ hk=>⟨hk,rfl,rfl,rfl⟩,by subst hM;rfl⟩
  rw [List.getElem?_append] at hp
  split at hp
  ·rename_i ht
   obtain⟨u,h4,h5⟩:=Rs_get hl0 hp
   have : (vals++Array.replicate (fn.ntmps-vals.size) undef).getD t undef=u:=by
    rw [Array.getD_eq_getD_getElem?,Array.getElem?_append_left (by rw [hsz];exact ht)]
    have : vals[t]? =some u:=by simpa using h4
    rw [this];rfl
   show R w _ p ((vals++Array.replicate (fn.ntmps-vals.size) undef).getD t undef)
   rw [this]
   exact h5
  ·rw [List.getElem?_replicate] at hp
   split at hp
   ·cases hp;unfold R;trivial
   ·cases hp
 refine calls_of_wp hf hb (wp_mono (awp_ok hc hm hMn body hck _ _ _ w _ h2 hsr) ?_)
 intro x a' w' hq
 cases x with
 | normal=>obtain⟨st,e1,h4,h5⟩:=hq;subst hM;exact hr _ _ _ _ _ h5 h4
 | ret=>obtain⟨st,e1,h4,h5⟩:=hq;subst hM;exact hr _ _ _ _ _ h5 h4
 | exit id=>obtain⟨st,e1,h4,h5⟩:=hq;exact (hx _ _ h5).elim
 | goto l=>exact hq.elim
 | panic ch=>exact hq.elim
 | outgrown=>exact hq.elim
theorem run_awp (hc:CxOk P c) (hm:P.follows .mixedOrders =true) {f:FuncId} {fn:Func} {body:Code} (hf:P.funcs[f]? =some fn) (hb:fn.body=some body) (hck:codeOk body=true) {H:AH} {args:List PV} {out:Out} (hn0:c.n0=H.length)
 {e:Env} {vals:Array Value} (hz:FzW w e.fz) (hob : ∀id o,H.get id=some o→OR w e id o∧e.on id) (hon : ∀k,e.on k↔k<H.length) (hlv : ∀k,e.lv k↔k<H.length) (hbd : ∀k b,e.on k→e.blk k b→b<w.heap.size∧¬e.fz b)
 (hdis : ∀k k' b,e.on k→e.on k'→e.blk k b→e.blk k' b→k=k') (hl0:Rs w e args vals.toList)
 (h2:awp c body (retQ c fn.results.toList out) ⟨args++List.replicate (fn.ntmps-args.length) .dead,H,H.length⟩):Calls P f vals w fun en w'=>∃v e',en=.returned v∧Post w w' e e' H.length out v:=by
 obtain⟨M,hM⟩ : ∃M:Root,M=⟨fun b=>∃k,e.on k∧e.blk k b,H.length,e,[]⟩:=⟨_,rfl⟩
 have fin : ∀st e1 a' w',SR w e.fz M st a' w' e1→retQ c fn.results.toList out .ret st→a'.defers=[]∧∃v,(results fn a'.tmps).run P w'=.ok v w'∧∃v' e',Ending.returned v=.returned v'∧Post w w' e e' H.length out v':=by
  intro st e1 a' w' hs' hq
  unfold retQ at hq
  simp only at hq
  split at hq
  ·rename_i l hlr
   obtain⟨hck1,hobs⟩:=hq
   generalize reach st.h 60 (List.range c.n0++idsL l) []=ρ at hck1 hobs
   obtain⟨v,hv1,hv2⟩:=results_run hc hs' hlr
   simp only [keep,chk,Bool.and_eq_true,List.all_eq_true,Nat.blt_eq,Nat.ble_eq,List.mem_range] at hck1
   obtain⟨⟨⟨hkn,hkeep⟩,hnd, -,hob1⟩,hfull,hvin⟩:=hck1
   rw [hn0] at hkn hkeep
   have hkeep : ∀k,k<H.length→look ρ k=k:=fun k hk=>Nat.eq_of_beq_eq_true (hkeep k hk)
   obtain⟨hsame,hob2⟩:=obs_mem hobs
   have hrn:=e1.rn_ok (look ρ) ρ.length
   unfold full at hfull
   rw [List.all_eq_true] at hfull
   have hfull : ∀k,k<ρ.length→(out.eff.get k).isSome =true:=fun k hk=>hfull k (List.mem_range.2 hk)
   have hroot : ∀k,e.on k→e1.on k∧e1.adr k=e.adr k∧e1.cap k=e.cap k∧e1.len k=e.len k:=fun k hk=>by
    have:=hs'.root k
    subst hM
    exact this ((hon k).1 hk) hk
   have hst : ∀k,e.on k→k<ρ.length∧look ρ k=k:=fun k hk=>⟨Nat.lt_of_lt_of_le ((hon k).1 hk) hkn,hkeep k ((hon k).1 hk)⟩
   refine⟨by have:=hs'.defers;subst hM;exact this,v,hv1,v,e1.rn (look ρ) ρ.length,rfl,?_,?_,⟨fun b hb=>hs'.ez.sup b hb,fun k b hk _ hb hf=>absurd hf (hs'.ez.nf (look ρ k) b hk.2 hb)⟩,?_,?_,?_,?_,?_,?_⟩
   ·exact R_rn hrn _ _ hvin (same_R _ _ _ hsame hv2)
   ·refine⟨fun k hk=>⟨(hst k hk).1,by rw [(hst k hk).2];exact (hroot k hk).1⟩,fun k hk=>?_,fun k hk=>?_,fun k hk=>?_,fun b hb=>hs'.ez.sub b hb⟩
    ·show e1.adr (look ρ k)=_;rw [(hst k hk).2];exact (hroot k hk).2.1
    ·show e1.cap (look ρ k)=_;rw [(hst k hk).2];exact (hroot k hk).2.2.1
    ·show e1.len (look ρ k)=_;rw [(hst k hk).2];exact (hroot k hk).2.2.2
   ·intro k o hk
    have hmem:=get_mem hk
    obtain⟨h4,h5⟩:=hob1 _ hmem
    obtain⟨x,hx,hxo⟩:=hob2 _ hmem
    obtain⟨h6,h7,h8⟩:=hs'.ob _ _ hx
    exact⟨OR_rn hrn h5 (same_O hxo h6),⟨h4,h7⟩,fun hg=>⟨h4,h8 (by rw [same_gn hxo,rnO_gn];exact hg)⟩⟩
   ·intro k hk
    by_cases hkH:k<H.length
    ·exact .inl ((hon k).2 hkH)
    ·exact .inr ⟨Nat.le_of_not_lt hkH,hfull k hk.1⟩
   ·intro k hk
    by_cases hkH:k<H.length
    ·exact .inl ((hlv k).2 hkH)
    ·refine .inr ⟨fun h=>hkH ((hon k).1 h),⟨hk.1,hs'.lo _ hk.2⟩,fun b hb=>⟨(hs'.bd (look ρ k) b hk.2 hb).2,?_⟩⟩
     rcases (hs'.bd (look ρ k) b hk.2 hb).1 with h | h
     ·exact .inl h
     ·refine .inr ?_
      subst hM
      obtain⟨j,hj,x,hx,hxb⟩:=h
      obtain⟨q1,q2, -, -⟩:=hroot j hj
      refine⟨j,(hlv j).2 ((hon j).1 hj),fun hjl=>?_,x,hx,hxb⟩
      have hjl:e1.lv (look ρ j):=hjl.2
      have h3:=(hst j hj).2
      have:=hs'.dis (look ρ k) (look ρ j) b hk.2 hjl hb ⟨x,by rw [h3,q2];exact hx,hxb⟩
      have:=look_inj hnd hk.1 (hst j hj).1 this
      subst this
      exact hkH ((hon k).1 hj)
   ·intro k hk
    have hkn:k<ρ.length:=(hst k ((hlv k).1 hk |> (hon k).2)).1
    obtain⟨o,ho⟩:=Option.isSome_iff_exists.1 (hfull k hkn)
    cases hg:o.gn with
    | true=>cases o with
      | gone=>exact .inr ho
      | _=>cases hg
    | false=>
      obtain⟨x,hx,hxo⟩:=hob2 _ (get_mem ho)
      exact .inl ⟨hkn,(hs'.ob _ _ hx).2.2 (by rw [same_gn hxo,rnO_gn];exact hg)⟩
   ·intro k k' b hk _ hk' _ hb hb'
    exact look_inj hnd hk.1 hk'.1 (hs'.dis _ _ b hk.2 hk'.2 hb hb')
   ·refine⟨hs'.low.os,hs'.low.tape,hs'.low.output,hs'.low.size,fun b hb hnM=>hs'.low.block b hb fun hMb=>hnM ?_⟩
    subst hM
    obtain⟨k,hk,hkb⟩:=hMb
    exact⟨k,(hlv k).2 ((hon k).1 hk),hfull k (hst k hk).1,hkb⟩
  ·exact hq.elim
 refine run_awpG hc hm hf hb hck hn0 hz hob hon hlv hbd hdis hl0 (fun _ _ h=>h) (fun ex st e1 a' w' hq hs'=>?_) h2
 rw [←hM] at hs'
 cases ex with
 | normal=>exact fin st e1 a' w' hs' hq
 | ret=>exact fin st e1 a' w' hs' hq
 | exit id=>exact hq.elim
theorem FOk.of_awp (hc:CxOk P c) (hm:P.follows .mixedOrders =true) {f:FuncId} {fn:Func} {body:Code} {S:FSpec} (hf:P.funcs[f]? =some fn) (hb:fn.body=some body) (hn:(fn.name=="runtime.NumGoroutine")=false) (hn0:c.n0=0) (hck:codeOk body=true)
 (h : ∀args out,S args=some out→(∀p∈out.pre,p)→(idInL [] args&&Nat.ble args.length fn.ntmps)=true∧awp c body (retQ c fn.results.toList out) ⟨args++List.replicate (fn.ntmps-args.length) .dead,[],0⟩):FOk P f S:=by
 refine⟨⟨fn,hf,hn,by rw [hb];rfl⟩,fun args out hs hp w e vals hz hl=>?_⟩
 obtain⟨h1,h2⟩:=h args out hs hp
 rw [Bool.and_eq_true,Nat.ble_eq] at h1
 have hrn0:Rn id [] e { e with on:=fun _=>False,lv:=fun _=>False }:=⟨fun k hk=>absurd hk (by simp),fun _=>rfl,fun _=>rfl,fun _=>rfl,rfl⟩
 have hl0:Rs w { e with on:=fun _=>False,lv:=fun _=>False } args vals.toList:=Rs_rn hrn0 args _ h1.1 (by rw [rnL_id];exact hl)
 exact run_awp (H:=[]) hc hm hf hb hck (by rw [hn0];rfl) (e:={ e with on:=fun _=>False,lv:=fun _=>False }) hz (fun id o h=>by simp [AH.get] at h) (fun k=>⟨fun h=>h.elim,fun h=>absurd h (Nat.not_lt_zero k)⟩) (fun k=>⟨fun h=>h.elim,fun h=>absurd h (Nat.not_lt_zero k)⟩) (fun k b h=>h.elim) (fun k k' b h=>h.elim) hl0 h2
theorem MOk.of_awp {f:FuncId} {fn:Func} {body:Code} {S:MSpec} (hc:CxOk P c) (hm:P.follows .mixedOrders =true) (hf:P.funcs[f]? =some fn) (hb:fn.body=some body) (hn:(fn.name=="runtime.NumGoroutine")=false) (hck:codeOk body=true)
 (h : ∀H args out,S H args=some out→(∀p∈out.pre,p)→Nat.beq c.n0 H.length=true∧awp c body (retQ c fn.results.toList out) ⟨args++List.replicate (fn.ntmps-args.length) .dead,H,H.length⟩):MOk P f S:=by
 refine⟨⟨fn,hf,hn,by rw [hb];rfl⟩,fun H args out hs hp w e vals hz hob hon hlv hbd hdis hl=>?_⟩
 obtain⟨h1,h2⟩:=h H args out hs hp
 exact run_awp hc hm hf hb hck (Nat.eq_of_beq_eq_true h1) hz hob hon hlv hbd hdis hl h2
def MSpec.or (S T:MSpec):MSpec:=fun H l=>match S H l with | some o=>some o | none=>T H l
theorem MOk.or {f:FuncId} {S T:MSpec} (hS:MOk P f S) (hT:MOk P f T):MOk P f (S.or T):=⟨hS.fn,fun H l out h hp=>by
 unfold MSpec.or at h
 split at h
 ·rename_i hs;cases h;exact hS.run H l _ hs hp
 ·exact hT.run H l out h hp⟩
end
end Ax
namespace Ax
open Go.RowKit
def assoc {α:Type} (t:Nat):List (Nat×α)→Option α
 | []=>none
 | (k,v)::r=>if Nat.beq k t then some v else assoc t r
def eqL:List (Nat×Nat)→List (Nat×Nat)→Bool
 | [],[]=>true
 | (a,b)::r,(c,d)::s=>Nat.beq a c&&(Nat.beq b d&&eqL r s)
 | _,_=>false
theorem eqL_ok : ∀{x y:List (Nat×Nat)},eqL x y=true→x=y
 | [],[],_=>rfl
 | (a,b)::r,(c,d)::s,h=>by
   simp only [eqL,Bool.and_eq_true] at h
   rw [Nat.eq_of_beq_eq_true h.1,Nat.eq_of_beq_eq_true h.2.1,eqL_ok h.2.2]
 | [],_::_,h=>by simp [eqL] at h
 | _::_,[],h=>by simp [eqL] at h
def dCk (P:Program):TD→TypeDesc→Bool
 | .int k,.int k'=>k==k'
 | .bool,.bool =>true
 | .str,.string =>true
 | .ptr e,.pointer e'=>Nat.beq e e'
 | .sl e,.slice e'=>Nat.beq e e'
 | .st fs,.struct F=>eqL (F.toList.map fun f=>(f.offset,f.type)) fs&&F.toList.all fun f=>(P.info? f.type).isSome
 | .arr n e,.array n' e'=>Nat.beq n n'&&Nat.beq e e'
 | .oth,_=>true
 | _,_=>false
def tyCk (P:Program) (t:TypeId) (ti:TI):Bool:=
 match P.info? t,P.underlying t with
 | some i,some d=>(!Nat.ble ti.n 40||Nat.ble i.bytes 512)&&(Nat.beq i.size ti.n&&((match i.zero with | some z=>zOk ti.z z.cells.toList | none=>false)&&((aggD d==ti.agg)&&dCk P ti.d d)))
 | _,_=>false
theorem tyCk_ok {P:Program} {t:TypeId} {ti:TI} (h:tyCk P t ti=true):TyOk P t ti:=by
 unfold tyCk at h
 split at h
 ·rename_i i d hi hd
  simp only [Bool.and_eq_true] at h
  obtain⟨h0,h1,h2,h3,h4⟩:=h
  split at h2
  ·rename_i z hz
   refine⟨⟨i,hi,Nat.eq_of_beq_eq_true h1,z,hz,h2⟩,fun i' hi' hb=>by
    rw [hi] at hi'
    cases hi'
    rw [hb] at h0
    simpa using h0,d,hd,by simpa using h3,?_⟩
   unfold dCk at h4
   split at h4<;>rename_i hd1
   ·rw [hd1];simp only [beq_iff_eq] at h4;rw [h4]
   ·rw [hd1]
   ·rw [hd1]
   ·rw [hd1];rw [Nat.eq_of_beq_eq_true h4]
   ·rw [hd1];rw [Nat.eq_of_beq_eq_true h4]
   ·rw [hd1]
    rw [Bool.and_eq_true] at h4
    exact⟨_,rfl,eqL_ok h4.1,fun f hf=>List.all_eq_true.1 h4.2 f (by simpa using hf)⟩
   ·rw [hd1]
    rw [Bool.and_eq_true] at h4
    rw [Nat.eq_of_beq_eq_true h4.1,Nat.eq_of_beq_eq_true h4.2]
   ·rw [hd1];trivial
   ·cases h4
  ·cases h2
 ·cases h
theorem ty_all {P:Program} {T:TypeId→Option TI} (m:Nat) (hm : ∀t,Nat.ble m t=true→T t=none) (h:((List.range m).all fun t=>match T t with | some ti=>tyCk P t ti | none=>true)=true) : ∀t ti,T t=some ti→TyOk P t ti:=fun t ti hg=>by
 by_cases hl:t<m
 ·have:=List.all_eq_true.1 h t (List.mem_range.2 hl)
  rw [hg] at this
  exact tyCk_ok this
 ·rw [hm t (Nat.ble_eq_true_of_le (Nat.le_of_not_lt hl))] at hg
  cases hg
def eqCk (P:Program) (t:TypeId):Bool:=!P.stoodInHeld t&&(!P.eqGuardType P.depth t&&(match P.underlying t with
 | some (.struct F)=>F.toList.all fun f=>!(f.name=="_")
 | _=>true))
theorem eqCk_ok {P:Program} {t:TypeId} (h:eqCk P t=true):EqOk P t:=by
 unfold eqCk at h
 simp only [Bool.and_eq_true,Bool.not_eq_true'] at h
 refine⟨h.1,h.2.1,fun F hF f hf=>?_⟩
 have h3:=h.2.2
 rw [hF] at h3
 have:=List.all_eq_true.1 h3 f hf
 simpa using this
def memN (t:TypeId):List TypeId→Bool
 | []=>false
 | x::r=>Nat.beq x t||memN t r
theorem memN_ok {t:TypeId} : ∀{l:List TypeId},memN t l=true→t∈l
 | [],h=>by cases h
 | x::r,h=>by
   unfold memN at h
   rw [Bool.or_eq_true] at h
   rcases h with h | h
   ·rw [←Nat.eq_of_beq_eq_true h];exact List.mem_cons_self
   ·exact List.mem_cons_of_mem _ (memN_ok h)
theorem eq_all {P:Program} (l:List TypeId) (h:(l.all fun t=>eqCk P t)=true) : ∀t,memN t l=true→EqOk P t:=fun t ht=>eqCk_ok (List.all_eq_true.1 h t (memN_ok ht))
inductive FTok (P:Program):List (FuncId×FSpec)→Prop
 | nil:FTok P []
 | cons {f:FuncId} {S:FSpec} {r:List (FuncId×FSpec)} : FOk P f S→FTok P r→FTok P ((f,S)::r)
theorem FTok.get {P:Program} : ∀{l:List (FuncId×FSpec)},FTok P l→∀f S,assoc f l=some S→FOk P f S
 | [],_,f,S,h=>by simp [assoc] at h
 | (g,T)::r,.cons h1 h2,f,S,h=>by
   unfold assoc at h
   split at h
   ·rename_i hk
    cases h
    have : g=f:=Nat.eq_of_beq_eq_true hk
    subst this
    exact h1
   ·exact FTok.get h2 f S h
inductive MTok (P:Program):List (FuncId×MSpec)→Prop
 | nil:MTok P []
 | cons {f:FuncId} {S:MSpec} {r:List (FuncId×MSpec)} : MOk P f S→MTok P r→MTok P ((f,S)::r)
theorem MTok.get {P:Program} : ∀{l:List (FuncId×MSpec)},MTok P l→∀f S,assoc f l=some S→MOk P f S
 | [],_,f,S,h=>by simp [assoc] at h
 | (g,T)::r,.cons h1 h2,f,S,h=>by
   unfold assoc at h
   split at h
   ·rename_i hk
    cases h
    have : g=f:=Nat.eq_of_beq_eq_true hk
    subst this
    exact h1
   ·exact MTok.get h2 f S h
end Ax
namespace Ax
open Go.RowKit
structure Arg (α:Type) where
 rd:PV→Option α
 enc:α→PV
 ok : ∀x a,rd x=some a→x=enc a
structure Args (α:Type) where
 rd:List PV→Option α
 enc:α→List PV
 ok : ∀x a,rd x=some a→x=enc a
def aI:Arg Int:=⟨fun | .i .i64 n=>some n | _=>none,.i .i64,fun x a h=>by split at h<;>cases h;rfl⟩
def aC:Arg Int:=⟨fun | .i .u8 n=>some n | _=>none,.i .u8,fun x a h=>by split at h<;>cases h;rfl⟩
def aS:Arg (List UInt8):=⟨fun | .s n=>some n | _=>none,.s,fun x a h=>by split at h<;>cases h;rfl⟩
def aB:Arg Bool:=⟨fun | .b n=>some n | _=>none,.b,fun x a h=>by split at h<;>cases h;rfl⟩
def aN:Arg (List Int):=⟨fun | .rsl [.i .i64] n=>some n | _=>none,.rsl [.i .i64],fun x a h=>by split at h<;>cases h;rfl⟩
def aW:Arg (List (List UInt8)):=⟨fun | .rsl [.s] n=>some n | _=>none,.rsl [.s],fun x a h=>by split at h<;>cases h;rfl⟩
def a0:Args Unit:=⟨fun | []=>some () | _=>none,fun _=>[],fun x a h=>by split at h<;>cases h;rfl⟩
def a1 {α:Type} (A:Arg α):Args α:=⟨fun | [x]=>A.rd x | _=>none,fun a=>[A.enc a],fun x a h=>by split at h<;>first | exact congrArg (fun z=>[z]) (A.ok _ _ h) | cases h⟩
def both' {α β:Type} : Option α→Option β→Option (α×β)
 | some a,some b=>some (a,b)
 | _,_=>none
theorem both'_ok {α β:Type} {x:Option α} {y:Option β} {z:α×β} (h:both' x y=some z):x=some z.1∧y=some z.2:=by
 unfold both' at h
 split at h<;>cases h
 exact⟨rfl,rfl⟩
def ac {α β:Type} (A:Arg α) (B:Args β):Args (α×β):=⟨fun | x::r=>both' (A.rd x) (B.rd r) | _=>none,fun a=>A.enc a.1::B.enc a.2,fun x a h=>by
 split at h
 ·obtain⟨h1,h2⟩:=both'_ok h
  rw [A.ok _ _ h1,B.ok _ _ h2]
 ·cases h⟩
def aA {α:Type} (A:Args α):Arg α:=⟨fun | .agg l=>A.rd l | _=>none,fun a=>.agg (A.enc a),fun x a h=>by split at h<;>first | exact congrArg PV.agg (A.ok _ _ h) | cases h⟩
def aP {α:Type} (A:Args α):Arg α:=⟨fun | .rptr l 0=>A.rd l | _=>none,fun a=>.rptr (A.enc a) 0,fun x a h=>by split at h<;>first | exact congrArg (PV.rptr · 0) (A.ok _ _ h) | cases h⟩
def fsp {α:Type} (A:Args α) (pre:α→Prop) (v:α→PV) (eff:α→AH:=fun _=>[]):FSpec:=fun l=>match A.rd l with
 | some a=>some ⟨[pre a],v a,eff a⟩
 | none=>none
structure MArgs (α:Type) where
 rd:AH→List PV→Option α
 eh:α→AH
 ea:α→List PV
 ok : ∀H l a,rd H l=some a→H=eh a∧l=ea a
def msp {α:Type} (A:MArgs α) (pre:α→Prop) (v:α→PV) (eff:α→AH):MSpec:=fun H l=>match A.rd H l with
 | some a=>some ⟨[pre a],v a,eff a⟩
 | none=>none
section
variable {P:Program} {c:Cx} {f:FuncId} {fn:Func} {body:Code} {α:Type}
theorem FOk.go {A:Args α} {pre:α→Prop} {v:α→PV} {eff:α→AH} (hc:CxOk P c) (hm:P.follows .mixedOrders =true) (hf:P.funcs[f]? =some fn) (hb:fn.body=some body) (hn:(fn.name=="runtime.NumGoroutine")=false) (hn0:c.n0=0) (hck:codeOk body=true)
 (h : ∀a,pre a→(idInL [] (A.enc a)&&Nat.ble (A.enc a).length fn.ntmps)=true∧awp c body (retQ c fn.results.toList ⟨[],v a,eff a⟩) ⟨A.enc a++List.replicate (fn.ntmps-(A.enc a).length) .dead,[],0⟩):FOk P f (fsp A pre v eff):=
 FOk.of_awp hc hm hf hb hn hn0 hck fun args out hs hp=>by
  unfold fsp at hs
  split at hs
  ·rename_i a ha
   cases hs
   rw [A.ok _ _ ha]
   exact h a (hp _ (by simp))
  ·cases hs
theorem MOk.go {A:MArgs α} {pre:α→Prop} {v:α→PV} {eff:α→AH} (hc:CxOk P c) (hm:P.follows .mixedOrders =true) (hf:P.funcs[f]? =some fn) (hb:fn.body=some body) (hn:(fn.name=="runtime.NumGoroutine")=false) (hck:codeOk body=true)
 (h : ∀a,pre a→Nat.beq c.n0 (A.eh a).length =true∧awp c body (retQ c fn.results.toList ⟨[],v a,eff a⟩) ⟨A.ea a++List.replicate (fn.ntmps-(A.ea a).length) .dead,A.eh a,(A.eh a).length⟩):MOk P f (msp A pre v eff):=
 MOk.of_awp hc hm hf hb hn hck fun H args out hs hp=>by
  unfold msp at hs
  split at hs
  ·rename_i a ha
   cases hs
   obtain⟨rfl,rfl⟩:=A.ok _ _ _ ha
   exact h a (hp _ (by simp))
  ·cases hs
end
section
variable {α:Type} {a b:Int} {s t:List UInt8} {x y:Bool} {L M:List α} {d e:α}
@[simp] theorem sd_add:std.add a b=a+b:=rfl
@[simp] theorem sd_sub:std.sub a b=a-b:=rfl
@[simp] theorem sd_mul:std.mul a b=a*b:=rfl
@[simp] theorem sd_eqI:std.eqI a b=(a==b):=rfl
@[simp] theorem sd_ltI:std.ltI a b=decide (a<b):=rfl
@[simp] theorem sd_leI:std.leI a b=decide (a≤b):=rfl
@[simp] theorem sd_eqB:std.eqB x y=(x==y):=rfl
@[simp] theorem sd_eqS:std.eqS s t=(s==t):=rfl
@[simp] theorem sd_app:std.app s t=s++t:=rfl
@[simp] theorem sd_drp:std.drp s a=s.drop a.toNat:=rfl
@[simp] theorem sd_tak:std.tak s a=s.take a.toNat:=rfl
@[simp] theorem sd_lenS:std.lenS s=s.length:=rfl
@[simp] theorem sd_byte:std.byte s a=(s.getD a.toNat 0).toNat :=rfl
@[simp] theorem sd_len:std.len L=L.length:=rfl
@[simp] theorem sd_get:std.get d L a=L.getD a.toNat d:=rfl
@[simp] theorem sd_set:std.set L a e=L.set a.toNat e:=rfl
@[simp] theorem sd_snoc:std.snoc L M=L++M:=rfl
@[simp] theorem sd_ltM:std.ltM a↔a≤274877906944:=Iff.rfl
@[simp] theorem min_i64:IntKind.min .i64 = -9223372036854775808:=rfl
@[simp] theorem max_i64:IntKind.max .i64 =9223372036854775807:=rfl
@[simp] theorem min_u8:IntKind.min .u8 =0:=rfl
@[simp] theorem max_u8:IntKind.max .u8 =255:=rfl
@[simp] theorem min_i8:IntKind.min .i8 = -128:=rfl
@[simp] theorem max_i8:IntKind.max .i8 =127:=rfl
@[simp] theorem min_i32:IntKind.min .i32 = -2147483648:=rfl
@[simp] theorem max_i32:IntKind.max .i32 =2147483647:=rfl
@[simp] theorem sd_inK {k:IntKind} : std.inK k a↔k.min≤a∧a≤k.max:=Iff.rfl
@[simp] theorem sd_inL:std.inL a b↔0≤a∧a<b:=Iff.rfl
@[simp] theorem sd_leP:std.leP a b↔a≤b:=Iff.rfl
@[simp] theorem sd_neP:std.neP a b↔a≠b:=Iff.rfl
@[simp] theorem sd_toS {l:List Int} : std.toS l=toSl l:=rfl
@[simp] theorem sd_toB:std.toB s=toBl s:=rfl
@[simp] theorem sd_and:std.and x y=(x&&y):=rfl
@[simp] theorem sd_ltS:std.ltS s t=Op.bytesLess s t:=rfl
theorem in64 {n:Int} (h : -9223372036854775808≤n∧n≤9223372036854775807):std.inK .i64 n:=h
theorem quo_nn (h:0≤a):std.quo a b=a/b:=Int.tdiv_eq_ediv_of_nonneg h
theorem rem_nn (h:0≤a):std.rem a b=a%b:=Int.tmod_eq_emod_of_nonneg h
@[simp] theorem toB_get (X:List UInt8) (n:Nat):(toBl X).getD n 0=((X.getD n 0).toNat : Int):=by
 simp only [toBl,List.getD_eq_getElem?_getD,List.getElem?_map]
 cases X[n]? <;>rfl
@[simp] theorem toB_set (X:List UInt8) (n:Nat) (c:UInt8):(toBl X).set n (c.toNat:Int)=toBl (X.set n c):=by simp [toBl,List.map_set]
@[simp] theorem toB_len (X:List UInt8):(toBl X).length =X.length:=by simp [toBl]
@[simp] theorem toB_app (X Y:List UInt8):toBl X++toBl Y=toBl (X++Y):=by simp [toBl]
@[simp] theorem toB_snoc (X:List UInt8) (c:UInt8):toBl X++[(c.toNat:Int)]=toBl (X++[c]):=by simp [toBl]
@[simp] theorem toS_toB (X:List UInt8):toSl (toBl X)=X:=by
 simp only [toSl,toBl,List.map_map]
 rw [List.map_congr_left (g:=id) (fun c _=>by simp),List.map_id]
theorem byte_in:std.inK .u8 (std.byte s a):=by
 have:=(s.getD a.toNat 0).toNat_lt
 refine⟨?_,?_⟩
 ·show (0:Int)≤(((s.getD a.toNat 0).toNat : Nat):Int);omega
 ·show (((s.getD a.toNat 0).toNat : Nat):Int)≤255;omega
theorem aI2 {a b:Prop} (h:a) (k:b):a∧b:=⟨h,k⟩
theorem fin {P:Prop} (h:P:=by first
 | exact True.intro
 | with_reducible assumption
 | with_reducible exact byte_in
 | with_reducible exact hp.1
 | with_reducible exact hp.2
 | with_reducible exact hp.2.1
 | with_reducible exact hp.2.2
 | (simp [std] at * <;>lia)
 | rfl):P:=h
theorem lt_of (h:std.ltI a b=true):a<b:=by simpa using h
theorem ge_of (h:std.ltI a b=false):b≤a:=by simpa using h
theorem tk (h0:0≤a) (h:a<L.length) (d:α):L.take (a+1).toNat =L.take a.toNat++[L.getD a.toNat d]:=by
 rw [show (a+1).toNat =a.toNat+1 from by omega,List.take_add_one,List.getD_eq_getElem?_getD,List.getElem?_eq_getElem (by omega)]
 rfl
theorem tk_all (h:(L.length:Int)≤a):L.take a.toNat=L:=List.take_of_length_le (by omega)
theorem dc (h0:0≤a) (h:a<L.length) (d:α):L.drop a.toNat=L.getD a.toNat d::L.drop (a+1).toNat :=by
 have h1:a.toNat<L.length:=by omega
 rw [show (a+1).toNat =a.toNat+1 from by omega,List.drop_eq_getElem_cons h1,List.getD_eq_getElem?_getD,List.getElem?_eq_getElem h1]
 rfl
theorem dn (h:(L.length:Int)≤a):L.drop a.toNat=[]:=List.drop_of_length_le (by omega)
end
end Ax
end Go.Proofs.YtjjonmhpgkahoaaGreatDoor
