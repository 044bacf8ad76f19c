/-
  The plain walker: calls; all operations.
  Conditions: the tables of types and of functions are as the program has them.
-/
import Derived.Test.YtjjonmhpgkahoaaGreatDoorS03
set_option linter.unusedSimpArgs false
set_option linter.unusedVariables false
namespace Go.Proofs.YtjjonmhpgkahoaaGreatDoor
namespace Ax
open Go.RowKit
section
variable {P:Program} {c:Cx} {o:Oper} {ρ:Operand→PV} {h:AH} {nx:Nat} {out:Out} {a:Act} {w:World} {e:Env}
theorem Rs_app {l m:List PV} {us vs:List Value} (h:Rs w e l us) (k:Rs w e m vs):Rs w e (l++m) (us++vs):=by
 induction l generalizing us with
 | nil=>unfold Rs at h;subst h;exact k
 | cons p ps ih=>
   unfold Rs at h
   obtain⟨u,us',rfl,h1,h2⟩:=h
   rw [List.cons_append,List.cons_append]
   unfold Rs
   exact⟨u,_,rfl,h1,ih h2⟩
theorem run_call {f:Operand} {args:Array Operand} {ts:Array TypeId} {g:FuncId} {fn:Func} {cs:Array Value} (ho:o.op=.call ⟨.value f,args,ts⟩) (hf:a.eval f=.func (.func g) #[] cs)
 (hg:P.funcs[g]? =some fn) (hn:(fn.name=="runtime.NumGoroutine")=false) (hb:fn.body.isNone=false):(execOp a.eval o).run P w=.ok (.enter g (args.map a.eval++cs)) w:=by
 unfold execOp
 simp only [ho,resolve,hf,Deferred.ofValue,Sem.run_bind,Sem.run_pure,Result.andThen_ok,invoke,callFunc,program,Sem.run,hg]
 simp [hn,hb,Sem.run]
def shEnv (e e':Env) (nx n:Nat) (p lv fz:Nat→Prop) [DecidablePred p]:Env:=
 { adr:=fun k=>if p k then e'.adr (k-nx+n) else e.adr k,cap:=fun k=>if p k then e'.cap (k-nx+n) else e.cap k,len:=fun k=>if p k then e'.len (k-nx+n) else e.len k,fz:=fz,on:=fun k=>e.on k∨p k,lv:=lv }
theorem mv_lt {ρ:List Nat} {nx k:Nat} (h:k<ρ.length):mv ρ nx k=look ρ k:=by unfold mv;rw [if_pos (by simpa using h)]
theorem mv_ge {ρ:List Nat} {nx k:Nat} (h:ρ.length≤k):mv ρ nx k=nx+(k-ρ.length):=by unfold mv;rw [if_neg (by simp;omega)]
structure Cn (w:World) (e e0:Env) (ρ:List Nat) (nx:Nat):Prop where
 on : ∀k,e0.on k→k<ρ.length∧e.on (look ρ k)∧e0.adr k=e.adr (look ρ k)∧e0.cap k=e.cap (look ρ k)∧e0.len k=e.len (look ρ k)
 lv : ∀k,e0.lv k→e0.on k∧e.lv (look ρ k)
 vl : ∀k,k<ρ.length→e.lv (look ρ k)→e0.lv k
 inj : ∀i j,i<ρ.length→j<ρ.length→look ρ i=look ρ j→i=j
 lt : ∀k,k<ρ.length→look ρ k<nx
 le : ∀b,e.fz b→e0.fz b
 z:FzW w e0.fz
theorem post_call {e0 e':Env} {ρ:List Nat} {w':World} {v:Value} (hcn:Cn w e e0 ρ nx) (hpost:Post w w' e0 e' ρ.length out v)
 (hro:(∀b,e0.fz b→e.fz b)∨out.v.ro=false∧roH out.eff=false) (hfresh : ∀k,nx≤k→((rnH (mv ρ nx) out.eff).get k).isSome =true→¬e.on k) {pre:List Prop} :
 ∃E,Post w w' e E nx ⟨pre,out.v.rn (mv ρ nx),rnH (mv ρ nx) out.eff⟩ v:=by
 classical
 have hlow:=hpost.chg
 have hcon : ∀k,e'.on k→ρ.length≤k→(out.eff.get k).isSome =true:=fun k hk hn=>((hpost.new k hk).resolve_left fun h=>absurd (hcn.on k h).1 (Nat.not_lt.2 hn)).2
 have hold : ∀k,e'.on k→k<ρ.length→e0.on k:=fun k hk hn=>(hpost.new k hk).resolve_right fun h=>absurd hn (Nat.not_lt.2 h.1)
 have hfresh : ∀k,nx≤k∧e'.on (k-nx+ρ.length)→¬e.on k:=fun k hk=>hfresh k hk.1 (by
  have:=rnH_some (n:=mv ρ nx) (hcon _ hk.2 (Nat.le_add_left _ _))
  rw [mv_ge (Nat.le_add_left _ _)] at this
  rwa [show nx+(k-nx+ρ.length-ρ.length)=k from by omega] at this)
 obtain⟨E,hE⟩ : ∃E,E=shEnv e e' nx ρ.length (fun k=>nx≤k∧e'.on (k-nx+ρ.length)) (fun K=>(e.lv K∧∀k,k<ρ.length→look ρ k=K→e'.lv k)∨∃k,K=nx+(k-ρ.length)∧ρ.length≤k∧e'.on k∧e'.lv k) (fun b=>e.fz b∨(e'.fz b∧w.heap.size≤b∧b<w'.heap.size)):=⟨_,rfl⟩
 have hElv : ∀K,E.lv K↔(e.lv K∧∀k,k<ρ.length→look ρ k=K→e'.lv k)∨∃k,K=nx+(k-ρ.length)∧ρ.length≤k∧e'.on k∧e'.lv k:=fun K=>by rw [hE];exact Iff.rfl
 have hEold : ∀k,k<nx→(E.adr k=e.adr k∧E.cap k=e.cap k∧E.len k=e.len k):=fun k hk=>by
  subst hE
  exact⟨if_neg (by omega),if_neg (by omega),if_neg (by omega)⟩
 have hEnew : ∀k,e'.on k→ρ.length≤k→(E.on (nx+(k-ρ.length))∧E.adr (nx+(k-ρ.length))=e'.adr k∧E.cap (nx+(k-ρ.length))=e'.cap k∧E.len (nx+(k-ρ.length))=e'.len k):=fun k hk hn=>by
  have hp:nx≤nx+(k-ρ.length)∧e'.on (nx+(k-ρ.length)-nx+ρ.length):=⟨Nat.le_add_right _ _,by rw [show nx+(k-ρ.length)-nx+ρ.length=k from by omega];exact hk⟩
  have hkk:nx+(k-ρ.length)-nx+ρ.length=k:=by omega
  subst hE
  refine⟨.inr hp,?_,?_,?_⟩
  ·show (if _ then _ else _)=_;rw [if_pos hp,hkk]
  ·show (if _ then _ else _)=_;rw [if_pos hp,hkk]
  ·show (if _ then _ else _)=_;rw [if_pos hp,hkk]
 have hLe:e.Le E:=by
  subst hE
  exact⟨fun k hk=>.inl hk,fun k hk=>if_neg fun hh=>hfresh k hh hk,fun k hk=>if_neg fun hh=>hfresh k hh hk,fun k hk=>if_neg fun hh=>hfresh k hh hk,fun b hb=>.inl hb⟩
 have hEfz : ∀b,E.fz b↔e.fz b∨(e'.fz b∧w.heap.size≤b∧b<w'.heap.size):=fun b=>by subst hE;exact Iff.rfl
 have hEon : ∀k,E.on k→e.on k∨∃k',k=nx+(k'-ρ.length)∧ρ.length≤k'∧e'.on k':=by
  subst hE
  rintro k (hk | ⟨hk,h⟩)
  ·exact .inl hk
  ·exact .inr ⟨k-nx+ρ.length,by omega,by omega,h⟩
 have hsh:Sh (mv ρ nx) e' E:=by
  have key : ∀k,e'.on k→E.on (mv ρ nx k)∧E.adr (mv ρ nx k)=e'.adr k∧E.cap (mv ρ nx k)=e'.cap k∧E.len (mv ρ nx k)=e'.len k:=fun k hk=>by
   by_cases hn:k<ρ.length
   ·have h0:=hold k hk hn
    obtain⟨-,q1,q2,q3,q4⟩:=hcn.on k h0
    obtain⟨r1,r2,r3⟩:=hEold _ (hcn.lt k hn)
    rw [mv_lt hn,r1,r2,r3,hpost.le.adr k h0,hpost.le.cap k h0,hpost.le.len k h0]
    exact⟨hLe.on _ q1,q2.symm,q3.symm,q4.symm⟩
   ·rw [mv_ge (Nat.le_of_not_lt hn)]
    exact hEnew k hk (Nat.le_of_not_lt hn)
  exact⟨fun k hk=>(key k hk).1,fun k hk=>(key k hk).2.1,fun k hk=>(key k hk).2.2.1,fun k hk=>(key k hk).2.2.2⟩
 have hblk : ∀k b,e'.on k→ρ.length≤k→E.blk (nx+(k-ρ.length)) b→e'.blk k b:=fun k b hk hn ⟨x,hx,hb⟩=>⟨x,by rw [←(hEnew k hk hn).2.1];exact hx,hb⟩
 have hro:(∀b,e'.fz b→E.fz b)∨out.v.ro=false∧roH out.eff=false:=hro.imp (fun hro b hb=>by
  rw [hEfz]
  exact (hpost.fz.fz b hb).imp (hro b) fun q=>⟨hb,q⟩) id
 have hrov:(∀b,e'.fz b→E.fz b)∨out.v.ro=false:=hro.imp id (·.1)
 have hEnf:FzP w w' e E:=by
  refine⟨fun b hb=>((hEfz b).1 hb).imp id (·.2),fun k b hk hk0 hb hf=>((hEfz b).1 hf).resolve_right fun q=>?_⟩
  obtain⟨k',rfl,hn,h4,h5⟩:=((hElv k).1 hk).resolve_left fun h=>hk0 h.1
  have:=hpost.fz.nf k' b h5 (fun h=>absurd (hcn.on k' (hcn.lv k' h).1).1 (Nat.not_lt.2 hn)) (hblk k' b h4 hn hb) q.1
  exact absurd (hcn.z.lt b this) (Nat.not_lt.2 q.2.1)
 refine⟨E,shift_R hsh out.v v hrov hpost.val,hLe,hEnf,?_,?_,?_,?_,?_,⟨hlow.os,hlow.tape,hlow.output,hlow.size,fun b hb hM=>hlow.block b hb fun ⟨k,hk,hks,x,hx,hxb⟩=>hM ?_⟩⟩
 ·intro k ob hk
  obtain⟨k',o',rfl,h4,h5,h6⟩:=rnH_get hk
  obtain⟨h7,h8,h8g⟩:=hpost.eff k' o' h4
  refine⟨?_,hsh.on k' h8,fun hg=>?_⟩
  case refine_2=>
   have hl:e'.lv k':=h8g (by rw [←hg,h5,rnO_gn])
   rw [hElv]
   by_cases hn:k'<ρ.length
   ·refine .inl ⟨?_,fun j hj hjk=>?_⟩
    ·rw [mv_lt hn]
     exact (hcn.lv k' ((hpost.nlv k' hl).resolve_right fun h=>h.1 (hold k' h8 hn))).2
    ·rw [mv_lt hn] at hjk
     rw [hcn.inj j k' hj hn hjk];exact hl
   ·exact .inr ⟨k',mv_ge (Nat.le_of_not_lt hn),Nat.le_of_not_lt hn,h8,hl⟩
  have hnf : ∀b,¬e'.fz b→¬E.fz b:=fun b hb hfz=>by
   rcases (hEfz b).1 hfz with q | q
   ·exact hb (hpost.le.fz b (hcn.le b q))
   ·exact hb q.1
  cases o' with
  | cells lc ty=>
    obtain⟨b,vs,q1,q2,q3,q4⟩:=h7
    subst h5
    refine⟨b,vs,by rw [hsh.adr k' h8];exact q1,hnf b q2,q3,shift_Rs hsh lc _ ?_ q4⟩
    rcases hro with hro | hro
    ·exact .inl hro
    ·exact .inr (h6 hro.2)
  | own sh L ty=>
    obtain⟨q0,q⟩:=h7
    subst h5
    refine⟨by rw [hsh.len k' h8];exact q0,?_⟩
    rcases q with ⟨q1,q2,q3⟩ | ⟨b,vs,q1,q2,q3,q4,q5,q6⟩
    ·exact .inl ⟨by rw [hsh.adr k' h8];exact q1,q2,by rw [hsh.cap k' h8];exact q3⟩
    ·refine .inr ⟨b,vs,by rw [hsh.adr k' h8];exact q1,hnf b q2,q3,by rw [hsh.cap k' h8];exact q4,by rw [hsh.cap k' h8];exact q5,fun i x hx=>?_⟩
     rcases hro with hro | hro
     ·exact RE_row hro (q6 i x hx)
     ·exact RE_flat (h6 hro.2) (q6 i x hx)
  | arr k n L ty=>
    obtain⟨q,h0,b,vs,fr,q1,q2,q3,q4,q5,q6,q7,q8⟩:=h7
    subst h5
    exact⟨q,by rw [hsh.len k' h8];exact h0,b,vs,fr,by rw [hsh.adr k' h8];exact q1,hnf b q2,q3,q4,by rw [hsh.cap k' h8];exact q5,q6,q7,q8⟩
  | it l k=>
    obtain⟨q0,q1,b,q2,q3,q4⟩:=h7
    subst h5
    exact⟨q0,q1,b,by rw [hsh.adr k' h8];exact q2,hnf b q3,q4⟩
  | gone=>rw [h5];trivial
 ·intro k hk
  rcases hEon k hk with h4 | ⟨k',rfl,hn,h4⟩
  ·exact .inl h4
  ·refine .inr ⟨by omega,?_⟩
   have:=rnH_some (n:=mv ρ nx) (hcon k' h4 hn)
   rwa [mv_ge hn] at this
 ·intro k hk
  rcases (hElv k).1 hk with h4 | ⟨k',rfl,hn,h4,h5⟩
  ·exact .inl h4.1
  ·refine .inr ⟨hfresh _ ⟨by omega,by rw [show nx+(k'-ρ.length)-nx+ρ.length=k' from by omega];exact h4⟩,(hEnew k' h4 hn).1,fun b hb=>?_⟩
   obtain⟨-, -,h6⟩:=(hpost.nlv k' h5).resolve_left fun h=>absurd (hcn.on k' (hcn.lv k' h).1).1 (Nat.not_lt.2 hn)
   obtain⟨h7,h8⟩:=h6 b (hblk k' b h4 hn hb)
   refine⟨h7,h8.imp id fun ⟨j,q1,q2,q3⟩=>?_⟩
   obtain⟨r1,r2⟩:=hcn.lv j q1
   obtain⟨s1, -,s3, -, -⟩:=hcn.on j r1
   refine⟨look ρ j,r2,fun h=>?_,?_⟩
   ·rcases (hElv _).1 h with h9 | ⟨k2,h9, -⟩
    ·exact q2 (h9.2 j s1 rfl)
    ·have:=hcn.lt j s1;omega
   ·obtain⟨x,hx,hxb⟩:=q3
    exact⟨x,s3 ▸ hx,hxb⟩
 ·intro k hk
  by_cases hall : ∀j,j<ρ.length→look ρ j=k→e'.lv j
  ·exact .inl ((hElv k).2 (.inl ⟨hk,hall⟩))
  ·refine .inr ?_
   obtain⟨j,hj⟩:=Classical.not_forall.1 hall
   obtain⟨h4,hj⟩:=Classical.not_imp.1 hj
   obtain⟨rfl,h5⟩:=Classical.not_imp.1 hj
   have h6:=(hpost.klv j (hcn.vl j h4 hk)).resolve_left h5
   have:=rnH_eq (n:=mv ρ nx) (fun i hi hij=>?_) h6
   ·rwa [mv_lt h4] at this
   ·by_cases hn:i<ρ.length
    ·rw [mv_lt hn,mv_lt h4] at hij
     exact hcn.inj i j hn h4 hij
    ·rw [mv_ge (Nat.le_of_not_lt hn),mv_lt h4] at hij
     have:=hcn.lt j h4
     omega
 ·intro k k' b hk hk1 hk' hk1' hb hb'
  obtain⟨j,rfl,hn,hj,hjl⟩:=((hElv k).1 hk).resolve_left fun h=>hk1 h.1
  obtain⟨j',rfl,hn',hj',hjl'⟩:=((hElv k').1 hk').resolve_left fun h=>hk1' h.1
  rw [hpost.dis j j' b hjl (fun h=>absurd (hcn.on j (hcn.lv j h).1).1 (Nat.not_lt.2 hn)) hjl' (fun h=>absurd (hcn.on j' (hcn.lv j' h).1).1 (Nat.not_lt.2 hn')) (hblk j b hj hn hb) (hblk j' b hj' hn' hb')]
 ·obtain⟨r1,r2⟩:=hcn.lv k hk
  obtain⟨q0,q1,q2, -, -⟩:=hcn.on k r1
  refine⟨look ρ k,r2,?_,x,q2 ▸ hx,hxb⟩
  have:=rnH_some (n:=mv ρ nx) hks
  rwa [mv_lt q0] at this
theorem done_call {vals:Array Value} {g:FuncId} {e0:Env} {ρ:List Nat} (hrun:(execOp a.eval o).run P w=.ok (.enter g vals) w) (hcn:Cn w e e0 ρ nx)
 (hcall:Calls P g vals w fun en w'=>∃v e',en=.returned v∧Post w w' e0 e' ρ.length out v)
 (hro:(∀b,e0.fz b→e.fz b)∨out.v.ro=false∧roH out.eff=false) (hfresh : ∀k,nx≤k→((rnH (mv ρ nx) out.eff).get k).isSome =true→¬e.on k) :
 Done P o a w e nx ⟨out.pre,out.v.rn (mv ρ nx),rnH (mv ρ nx) out.eff⟩:=by
 unfold Done Oper.wp
 rw [hrun,Oper.upon_enter]
 refine hcall.mono ?_
 rintro en w' ⟨v,e',rfl,hpost⟩
 obtain⟨E,hE⟩:=post_call hcn hpost hro hfresh (pre:=out.pre)
 exact⟨v,E,rfl,hE⟩
theorem done_frz {vals:Array Value} {g:FuncId} {e0:Env} {pre:List Prop} {sh:List AtTy} {L:List (El sh)} {ty:TypeId} (hrun:(execOp a.eval o).run P w=.ok (.enter g vals) w) (hlv : ∀k,¬e0.lv k) (hon : ∀k,¬e0.on k) (hfl:flatSh sh=true)
 (hcall:Calls P g vals w fun en w'=>∃v e',en=.returned v∧Post w w' e0 e' 0 ⟨pre,.osl 0,[(0,.own sh L ty)]⟩ v) :
 Done P o a w e nx ⟨pre,.rsl sh L,[]⟩:=by
 unfold Done Oper.wp
 rw [hrun,Oper.upon_enter]
 refine hcall.mono ?_
 rintro en w' ⟨v,e',rfl,hP⟩
 obtain⟨h1,h2,h3⟩:=hP.eff 0 (.own sh L ty) (by simp [AH.get])
 have hnew : ∀b,e'.blk 0 b→w.heap.size≤b∧b<w'.heap.size:=fun b hb=>by
  obtain⟨-, -,h4⟩:=(hP.nlv 0 (h3 rfl)).resolve_left (hlv 0)
  obtain⟨h5,h6⟩:=h4 b hb
  exact⟨h6.resolve_right fun ⟨j,hj,_⟩=>hlv j hj,h5⟩
 have hv:=hP.val
 refine⟨v,{ e with fz:=fun b=>e.fz b∨w.heap.size≤b∧b<w'.heap.size },rfl,?_,⟨fun _ h=>h,fun _ _=>rfl,fun _ _=>rfl,fun _ _=>rfl,fun b hb=>.inl hb⟩,⟨fun b hb=>hb,fun k b hk hk0=>absurd hk hk0⟩,fun k o' hk=>by simp [AH.get] at hk,fun k hk=>.inl hk,fun k hk=>.inl hk,fun k hk=>.inl hk,fun k k' b hk hk0=>absurd hk hk0,⟨hP.chg.os,hP.chg.tape,hP.chg.output,hP.chg.size,fun b hb _=>hP.chg.block b hb fun ⟨k,hk,_⟩=>hlv k hk⟩⟩
 unfold R at hv ⊢
 obtain⟨-,rfl⟩:=hv
 obtain⟨q0,q⟩:=h1
 rcases q with ⟨q1,q2,q3⟩ | ⟨b,vs,q1,q2,q3,q4,q5,q6⟩
 ·exact⟨e'.adr 0,e'.cap 0,by rw [q0],by rw [q2];exact Nat.zero_le _,fun i x hx=>by rw [q2] at hx;simp at hx⟩
 ·refine⟨e'.adr 0,e'.cap 0,by rw [q0],q5.1,fun i x hx=>⟨b,0,q1,.inr (hnew b ⟨_,q1,rfl⟩),?_⟩⟩
  rw [Nat.zero_add]
  exact RE_flat hfl (q6 i x hx)
theorem can_ok {h:AH} {ρ:List Nat} {nx:Nat} {vs:List PV} (hsee:Sees w e h) (hcl:closed h ρ nx vs=true) {us:List Value} (hvs:Rs w e vs us) : ∃e0,Cn w e e0 ρ nx∧e0.fz=e.fz∧(canH h ρ 0 ρ).length =ρ.length∧
 (∀id o,(canH h ρ 0 ρ).get id=some o→OR w e0 id o∧e0.on id)∧(∀k,e0.on k↔k<ρ.length)∧(∀k,e0.lv k↔k<ρ.length)∧(∀k b,e0.on k→e0.blk k b→b<w.heap.size∧¬e0.fz b)∧(∀k k' b,e0.on k→e0.on k'→e0.blk k b→e0.blk k' b→k=k')∧Rs w e0 (rnL (idx ρ) vs) us:=by
 unfold closed at hcl
 simp only [Bool.and_eq_true,List.all_eq_true,Nat.blt_eq] at hcl
 obtain⟨hnd,hall,hin⟩:=hcl
 have hlk : ∀j,j<ρ.length→look ρ j∈ρ:=fun j hj=>by
  unfold look
  rw [List.getD_eq_getElem?_getD,List.getElem?_eq_getElem hj]
  exact List.getElem_mem hj
 have hsome : ∀k∈ρ,∃x,h.get k=some x∧x.idIn ρ=true∧x.gn=false:=fun k hk=>by
  have:=(hall k hk).2
  split at this
  ·rename_i x hx;exact⟨x,hx,by simpa using this⟩
  ·cases this
 have hrn:=e.rn_ok (look ρ) ρ.length
 obtain⟨h1,h2⟩:=canH_spec (ρ:=ρ) ρ 0 fun k hk=>by obtain⟨x,hx, -⟩:=hsome k hk;rw [hx];rfl
 have hblk : ∀k b,(e.rn (look ρ) ρ.length).blk k b→e.blk (look ρ k) b:=fun k b hb=>hb
 have hon0 : ∀k,k<ρ.length→e.on (look ρ k):=fun k hk=>by
  obtain⟨y,hy, -⟩:=hsome _ (hlk k hk)
  exact (hsee.ob _ _ hy).2.1
 have hlv0 : ∀k,k<ρ.length→e.lv (look ρ k):=fun k hk=>by
  obtain⟨y,hy, -,hg⟩:=hsome _ (hlk k hk)
  exact (hsee.ob _ _ hy).2.2 hg
 refine⟨e.rn (look ρ) ρ.length,⟨fun k hk=>⟨hk.1,hk.2,rfl,rfl,rfl⟩,fun k hk=>⟨⟨hk.1,hon0 k hk.1⟩,hk.2⟩,fun k hk h=>⟨hk,h⟩,fun i j hi hj=>look_inj hnd hi hj,fun k hk=>(hall _ (hlk k hk)).1,fun b hb=>hb,hsee.fz⟩,rfl,h1,?_,fun k=>⟨fun hk=>hk.1,fun hk=>⟨hk,hon0 k hk⟩⟩,fun k=>⟨fun hk=>hk.1,fun hk=>⟨hk,hlv0 k hk⟩⟩,?_,?_,?_⟩
 ·intro id o hid
  obtain⟨j,x,rfl,hj,hx,rfl⟩:=h2 id o hid
  obtain⟨y,hy,hyin, -⟩:=hsome _ (hlk j hj)
  rw [show ρ.getD j 0=look ρ j from rfl,hy] at hx
  cases hx
  obtain⟨q1,q2⟩:=rnO_back hyin
  obtain⟨q3,q4, -⟩:=hsee.ob _ _ hy
  rw [Nat.zero_add]
  exact⟨nrm_O (OR_rn hrn q2 (by rw [q1];exact q3)),hj,q4⟩
 ·rintro k b ⟨hk,hon⟩ hb
  obtain⟨y,hy, -,hg⟩:=hsome _ (hlk k hk)
  exact⟨OR_row hg (hsee.ob _ _ hy).1 b (hblk k b hb),OR_fz hg (hsee.ob _ _ hy).1 b (hblk k b hb)⟩
 ·rintro k k' b ⟨hk,hon⟩ ⟨hk',hon'⟩ hb hb'
  exact look_inj hnd hk hk' (hsee.dis _ _ b (hlv0 k hk) (hlv0 k' hk') (hblk k b hb) (hblk k' b hb'))
 ·obtain⟨q1,q2⟩:=rnL_back vs hin
  exact Rs_rn hrn _ _ q2 (by rw [q1];exact hvs)
theorem run_len {x:Operand} {t:TypeId} {u:Value} (ho:o.op=.call ⟨.builtin .len,⟨[x]⟩,⟨[t]⟩⟩) (h:(Builtin.len_ #[t] o.type #[a.eval x]).run P w=.ok u w):(execOp a.eval o).run P w=.ok (.value u) w:=by
 unfold execOp
 simp only [ho,resolve,Sem.run_bind,Sem.run_pure,Result.andThen_ok,invoke,builtin]
 rw [show (Array.map a.eval { toList:=[x] })=#[a.eval x] from by simp,h]
 rfl
theorem run_slice_str {t:TypeId} (hu:P.underlying t=some .string) {l:List UInt8} {lo hi:Option Value} {m n:Nat} (h1:(match lo with | none=>m=0 | some v=>∃k,v=.int k m)) (h2:(match hi with | none=>n=l.length | some v=>∃k,v=.int k n)) (hmn:m≤n) (hn:n≤l.length) :
 (Instr.sliceAt t (sv l) lo hi none).run P w=.ok (sv ((l.take n).drop m)) w:=by
 have hsz:(ByteArray.mk l.toArray).size =l.length:=by simp [ByteArray.size]
 have hex:(ByteArray.mk l.toArray).extract m n=ByteArray.mk ((l.take n).drop m).toArray :=by rw [mk_extract,List.drop_take]
 rw [run_sliceAt_string w t _ _ _ _ hu]
 cases lo<;>cases hi
 all_goals simp only at h1 h2
 ·subst h1 h2
  simp [Instr.slice,Instr.sliceBounds,run_underlying hu,hsz,hex]
 ·subst h1
  obtain⟨k,rfl⟩:=h2
  simp [Instr.slice,Instr.sliceBounds,Instr.sliceBound,asIntOf,run_underlying hu,hsz,hn,hex]
 ·subst h2
  obtain⟨k,rfl⟩:=h1
  simp [Instr.slice,Instr.sliceBounds,Instr.sliceBound,asIntOf,run_underlying hu,hsz,hmn,hex]
 ·obtain⟨k,rfl⟩:=h1
  obtain⟨k',rfl⟩:=h2
  simp [Instr.slice,Instr.sliceBounds,Instr.sliceBound,asIntOf,run_underlying hu,hsz,hn,hmn,hex]
theorem part_at {t:TypeId} {ti:TI} (ht:TyOk P t ti) {off:Nat} {l:List PV} {vs:Array Value} (hl:Rs w e l vs.toList) {p:PV} (hp:ldC ti l off=some p) :
 ∃u,(part t vs off).run P w=.ok u w∧R w e p u:=by
 obtain⟨⟨i,hi,hn, -⟩, -,d,hu,hag, -⟩:=ht
 unfold ldC at hp
 simp only at hp
 have hsl:=Rs_take ti.n (Rs_drop off hl)
 have hex:(vs.extract off (off+ti.n)).toList =(vs.toList.drop off).take ti.n:=by simp [Array.toList_extract,List.extract_eq_take_drop]
 rw [←hex] at hsl
 have h0 : ∀u us,(vs.extract off (off+ti.n)).toList =u::us→vs[off]? =some u:=fun u us h=>by
  rw [hex] at h
  have:=congrArg (fun z:List Value=>z[0]?) h
  simp only [List.getElem?_take,List.getElem?_drop,Nat.add_zero,List.getElem?_cons_zero] at this
  split at this
  ·simpa using this
  ·cases this
 generalize (l.drop off).take ti.n=r at hp hsl
 have hla:=run_isAgg (w:=w) hu
 rw [hag] at hla
 split at hp
 ·split at hp
  ·rename_i ha
   cases hp
   rw [ha] at hla
   exact⟨.agg (vs.extract off (off+ti.n)),by simp [part,hla,run_size hi,hn],by unfold R;exact⟨_,rfl,hsl⟩⟩
  ·rename_i ha
   have ha:ti.agg=false:=by simpa using ha
   rw [ha] at hla
   split at hp
   ·cases hp
    unfold Rs at hsl
    obtain⟨u,us',h1,h2,h3⟩:=hsl
    exact⟨u,by simp [part,hla,h0 u us' h1],h2⟩
   ·cases hp
 ·cases hp
theorem RA_R {fz:Nat→Prop} (hz:e.fz=fz) : ∀(t:AtTy) (x:t.Ty) (v:Value),RA w fz t x v→R w e (t.pv x) v
 | .i _,x,v,h=>by unfold RA at h;unfold AtTy.pv R;exact h
 | .b,x,v,h=>by unfold RA at h;unfold AtTy.pv R;exact h
 | .s,x,v,h=>by unfold RA at h;unfold AtTy.pv R;exact h
 | .r sh,x,v,h=>by unfold RA at h;unfold AtTy.pv R;rw [hz];exact h
theorem REs_Rc {y:Type} {Q:y→Value→Prop} {f:y→PV} (hQ : ∀x v,Q x v→R w e (f x) v) : ∀{ts:List AtTy} {b o:Nat} {x:EL2 y ts},REs w e.fz Q ts b o x→Rc w e b o (mk2 f ts x)
 | [],b,o,x,h=>by
   unfold REs RE2 at h
   obtain⟨u,h1,h2⟩:=h
   unfold mk2 Rc Rc
   exact⟨⟨u,h1,hQ _ _ h2⟩,trivial⟩
 | t::ts,b,o,x,h=>by
   unfold REs RE2 at h
   obtain⟨⟨u,h1,h2⟩,h3⟩:=h
   unfold mk2 Rc
   exact⟨⟨u,h1,hQ _ _ h2⟩,REs_Rc (fun x v=>RA_R rfl t x v) h3⟩
theorem RE_Rc : ∀{sh:List AtTy} {b o:Nat} {x:El sh},RE w e.fz sh b o x→Rc w e b o (mk sh x)
 | [],b,o,x,_=>by unfold mk Rc;trivial
 | t::ts,b,o,x,h=>by
   unfold RE at h
   unfold mk
   exact REs_Rc (fun x v=>RA_R rfl t x v) h
theorem run_value {x:Sem Value} {u:Value} (hx:(execOp a.eval o)=(do pure (.value (←x)))) (h:x.run P w=.ok u w):(execOp a.eval o).run P w=.ok (.value u) w:=by
 rw [hx]
 simp [h]
theorem foldl_patch (off:Nat) : ∀(l:List Value) (k:Nat) (cells:Array Value),(l.zipIdx k).foldl (fun cs (x:Value×Nat)=>cs.setIfInBounds (off+x.2) x.1) cells=patch cells (off+k) l
 | [],_,_=>rfl
 | v::r,k,cells=>by
   rw [List.zipIdx_cons,List.foldl_cons,foldl_patch off r (k+1),patch]
   rfl
theorem fill_ok (hc:CxOk P c) {fs:List (Nat×TypeId)} {place:Nat→Option (Nat×Nat)} (hpl : ∀k off tf ti,fs[k]? =some (off,tf)→c.T tf=some ti→place k=some (off,ti.n)) :
 ∀(l:List (Nat×PV)) (us:List (Nat×Value)) (z r:List PV) (cells:Array Value),fillS c fs z l=some r→Rs w e z cells.toList→us.map (·.1)=l.map (·.1)→Rs w e (l.map (·.2)) (us.map (·.2))→
  ∃cells',Instr.fill place cells us=some cells'∧Rs w e r cells'.toList
 | [],us,z,r,cells,h,hz,h1,_=>by
   have : us=[]:=by simpa using h1
   subst this
   simp only [fillS,Option.some.injEq] at h
   subst h
   exact⟨cells,rfl,hz⟩
 | (k,v)::l,[],z,r,cells,h,hz,h1,_=>by simp at h1
 | (k,v)::l,(k',u)::us,z,r,cells,h,hz,h1,h2=>by
   simp only [List.map_cons,List.cons.injEq] at h1
   obtain⟨rfl,h1⟩:=h1
   simp only [List.map_cons] at h2
   unfold Rs at h2
   obtain⟨u',us',h3,h4,h5⟩:=h2
   cases h3
   unfold fillS at h
   split at h
   ·rename_i off tf hk
    split at h
    ·rename_i ti vs hti hcs
     split at h
     ·rename_i hck
      simp only [Bool.and_eq_true,beq_iff_eq,Nat.ble_eq] at hck
      obtain⟨hn,hle⟩:=hck
      have hRc:=R_cells hcs h4
      have hlen:=Rs_length hRc
      have hzl:=Rs_length hz
      simp only [Array.length_toList] at hlen hzl
      obtain⟨cells',h6,h7⟩:=fill_ok hc hpl l us (stC z off vs) r (patch cells off u.cells.toList) h (Rs_patch hz hRc hle) h1 h5
      refine⟨cells',?_,h7⟩
      unfold Instr.fill
      rw [hpl _ off tf ti hk hti]
      have hcond:((u.cells.size≠ti.n:Bool)||decide (off+u.cells.size>cells.size))=false:=by
       simp only [Bool.or_eq_false_iff,decide_eq_false_iff_not,ne_eq,Decidable.not_not]
       omega
      simp only [hcond,Bool.false_eq_true,if_false]
      rw [←h6]
      congr 1
      rw [←Array.foldl_toList,Array.toList_zipIdx]
      have:=foldl_patch off u.cells.toList 0 cells
      rw [Nat.add_zero] at this
      exact this
     ·cases h
    ·cases h
   ·cases h
theorem places_ok : ∀(l:List Field),(∀f∈l,(P.info? f.type).isSome =true)→∃places,l.mapM (fun f=>(P.info? f.type).map fun i=>(f.offset,i.size))=some places∧∀(k:Nat) (f:Field) (i:TypeInfo),l[k]? =some f→P.info? f.type=some i→places[k]? =some (f.offset,i.size)
 | [],_=>⟨[],rfl,fun k f i h=>by simp at h⟩
 | f::l,h=>by
   obtain⟨i,hi⟩:=Option.isSome_iff_exists.1 (h f (by simp))
   obtain⟨pl,h1,h2⟩:=places_ok l fun g hg=>h g (by simp [hg])
   refine⟨(f.offset,i.size)::pl,by simp [List.mapM_cons,hi,h1],fun k g j hk hj=>?_⟩
   cases k with
   | zero=>simp at hk;subst hk;rw [hi] at hj;cases hj;rfl
   | succ k=>simp at hk ⊢;exact h2 k g j hk hj
theorem aop0_ok (hc:CxOk P c) (hs:aop0 c o.op ρ h nx=some out) (hp : ∀p∈out.pre,p) (hρ : ∀x∈o.op.operands,R w e (ρ x) (a.eval x)) (hsee:Sees w e h)
 (hfresh : ∀k,nx≤k→(out.eff.get k).isSome =true→¬e.on k):Done P o a w e nx out:=by
 obtain⟨dst,op,ty,pos,aft,gd⟩:=o
 simp only at hs hρ
 have hcp:=hc.p
 unfold aop0 at hs
 split at hs
 case h_1 x=>
  simp only [ok,Option.some.injEq] at hs
  subst hs
  exact done_same rfl (hρ x (by simp [Op.operands]))
 case h_2 x=>
  simp only [ok,Option.some.injEq] at hs
  subst hs
  exact done_same rfl (hρ x (by simp [Op.operands]))
 case h_3 z x y=>
  have hz:=hρ z (by simp [Op.operands])
  split at hs
  ·rename_i hb
   simp only [ok,Option.some.injEq] at hs
   subst hs
   rw [hb,R_bt] at hz
   exact done_same (by simp [execOp,hz,asBool]) (hρ x (by simp [Op.operands]))
  ·rename_i hb
   simp only [ok,Option.some.injEq] at hs
   subst hs
   rw [hb,R_bf] at hz
   exact done_same (by simp [execOp,hz,asBool]) (hρ y (by simp [Op.operands]))
  ·cases hs
 case h_4 t=>
  split at hs
  ·rename_i ti ht
   simp only [Option.some.injEq] at hs
   subst hs
   obtain⟨i,hi, -,z,hz,hzz⟩:=(hc.T t ti ht).info
   refine done_new (hfresh nx (Nat.le_refl _) (by simp [AH.get])) hsee.fz.lt (zOk_Rs w e _ _ hzz) ?_
   simp [execOp,Instr.alloc,zeroValue,typeInfo,hi,hz,newVar,newRow]
  ·cases hs
 case h_5 t x=>
  split at hs
  ·rename_i l hl
   simp only [Option.some.injEq] at hs
   subst hs
   refine done_new (hfresh nx (Nat.le_refl _) (by simp [AH.get])) hsee.fz.lt (R_cells hl (hρ x (by simp [Op.operands]))) ?_
   simp [execOp,Instr.box,newVar,newRow]
  ·cases hs
 case h_6 t ps=>
  split at hs
  ·rename_i ti fs n z sh ht
   split at hs
   ·rename_i l hl
    simp only [ok,Option.some.injEq] at hs
    subst hs
    have hT:=hc.T t _ ht
    obtain⟨it,hit, -,zv,hzv,hzz⟩:=hT.info
    obtain⟨d',hu, -,hd⟩:=hT.und
    simp only at hd
    obtain⟨F,rfl,hF,hinfo⟩:=hd
    obtain⟨places,hpl,hpl2⟩:=places_ok (P:=P) F.toList fun f hf=>hinfo f (by simpa using hf)
    obtain⟨cells',h1,h2⟩:=fill_ok (w:=w) (e:=e) hc (place:=(places.toArray[·]?)) (fun k off tf ti hk hti=>by
     rw [←hF,List.getElem?_map] at hk
     obtain⟨fd,h1,h2⟩:=Option.map_eq_some_iff.1 hk
     cases h2
     obtain⟨i,hi,hin, -⟩:=(hc.T _ ti hti).info
     have:=hpl2 k fd i h1 hi
     rw [hin] at this
     simpa using this) (ps.toList.map fun q=>(q.1,ρ q.2)) (ps.toList.map fun q=>(q.1,a.eval q.2)) _ l zv.cells hl (zOk_Rs w e _ _ hzz) (by simp) (by
      refine Rs_of (by simp) fun i p u hp' hu=>?_
      simp only [List.map_map,List.getElem?_map,Option.map_eq_some_iff,Function.comp_apply] at hp' hu
      obtain⟨y,hy,rfl⟩:=hp'
      obtain⟨y',hy',rfl⟩:=hu
      rw [hy] at hy'
      cases hy'
      exact hρ y.2 (by
       have : y∈ps:=by rw [←Array.mem_toList_iff];exact List.mem_of_getElem? hy
       simp only [Op.operands,List.mem_toArray,List.mem_map]
       exact⟨y,by simpa using this,rfl⟩))
    refine done_same (u:=.agg cells') (run_value rfl (run_build w t _ cells' ?_)) (by unfold R;exact⟨_,rfl,h2⟩)
    unfold Program.built
    simp only [hit,hu,hzv,hpl]
    simpa using h1
   ·cases hs
  ·cases hs
 case h_7 t n ps=>
  split at hs
  ·rename_i te _ _ sh ht
   obtain⟨d',hu, -,hd⟩:=(hc.T t _ ht).und
   simp only at hd
   subst hd
   split at hs
   ·rename_i ti hti
    split at hs
    ·rename_i hok
     rw [Bool.and_eq_true,Nat.ble_eq] at hok
     split at hs
     ·rename_i L hL
      split at hs
      ·rename_i hlen
       simp only [Option.some.injEq] at hs
       subst hs
       refine done_lit (parts:=ps.map fun q=>(q.1,a.eval q.2)) hu (hc.T te ti hti) hok.1 hok.2 (hfresh nx (Nat.le_refl _) (by simp [AH.get])) hsee.fz.lt hL (Nat.eq_of_beq_eq_true hlen) (by simp [Function.comp_def]) ?_ fun v w' hr=>?_
       ·refine Rs_of (by simp) fun i p u hp' hu'=>?_
        simp only [Array.toList_map,List.map_map,List.getElem?_map,Option.map_eq_some_iff,Function.comp] at hp' hu'
        obtain⟨y,hy,rfl⟩:=hp'
        obtain⟨y',hy',rfl⟩:=hu'
        rw [hy] at hy'
        cases hy'
        exact hρ _ (by
         have : y∈ps:=by rw [←Array.mem_toList_iff];exact List.mem_of_getElem? hy
         simp only [Op.operands,List.mem_toArray,List.mem_map]
         exact⟨y,by simpa using this,rfl⟩)
       ·unfold execOp
        simp only [Sem.run_bind,hr,Result.andThen_ok]
        rfl
      ·cases hs
     ·cases hs
    ·cases hs
   ·cases hs
  ·cases hs
 case h_8 t x=>
  split at hs
  ·rename_i ti ht
   have hx:=hρ x (by simp [Op.operands])
   have hT:=hc.T t ti ht
   split at hs
   ·rename_i id off hx'
    rw [hx'] at hx
    unfold R at hx
    obtain⟨hon,b,h1,h2⟩:=hx
    split at hs
    ·rename_i l ty hg
     obtain⟨v,hv,h3⟩:=Option.bind_eq_some_iff.1 hs
     simp only [ok,Option.some.injEq] at h3
     subst h3
     obtain⟨⟨b',vs,h4,h5,h6,h7⟩, -⟩:=hsee.ob _ _ hg
     rw [h1] at h4
     cases h4
     obtain⟨u,hu,hR⟩:=load_at hT h7 (at_row h6) hv
     rw [Nat.zero_add] at hu
     exact done_same (by simp [execOp,Instr.loadAt,Instr.sureAddr,h2,hu]) hR
    ·cases hs
   ·rename_i l off hx'
    rw [hx'] at hx
    unfold R at hx
    obtain⟨b,o,h1,h2,h3⟩:=hx
    obtain⟨v,hv,h4⟩:=Option.bind_eq_some_iff.1 hs
    simp only [ok,Option.some.injEq] at h4
    subst h4
    obtain⟨vs,h5,h6⟩:=Rc_at h3
    obtain⟨u,hu,hR⟩:=load_at hT h5 h6 hv
    exact done_same (by simp [execOp,Instr.loadAt,Instr.sureAddr,h1,hu]) hR
   ·rename_i id ix st off hx'
    rw [hx'] at hx
    unfold R at hx
    obtain⟨hon,b,h1,h2⟩:=hx
    split at hs
    ·rename_i sh L ty' hg
     split at hs
     ·rename_i hst
      have hst:=Nat.eq_of_beq_eq_true hst
      subst hst
      split at hs
      ·rename_i v hv
       simp only [okp,Option.some.injEq] at hs
       subst hs
       rw [hcp] at hp hv ⊢
       simp only [List.mem_cons,List.not_mem_nil,or_false,forall_eq,std] at hp
       obtain⟨⟨h0,hO⟩, -⟩:=hsee.ob _ _ hg
       have hlt:ix.toNat<L.length:=by omega
       obtain⟨b',vs,h3,h4,h5,h6,h7,h8⟩:=hO.resolve_left fun h=>by rw [h1] at h;cases h.1
       rw [h1] at h3
       cases h3
       have hel:=h8 ix.toNat L[ix.toNat] (List.getElem?_eq_getElem hlt)
       have he:std.get (dE sh) L ix=L[ix.toNat]:=by
        show L.getD ix.toNat _=_
        rw [List.getD_eq_getElem?_getD,List.getElem?_eq_getElem hlt];rfl
       rw [he] at hv
       obtain⟨us,h9,h10⟩:=Rc_at (RE_Rc hel)
       obtain⟨u,hu,hR⟩:=load_at hT h9 h10 hv
       exact done_same (by simp [execOp,Instr.loadAt,Instr.sureAddr,h2,hu]) hR
      ·cases hs
     ·cases hs
    ·cases hs
   ·cases hs
  ·cases hs
 case h_9 t x y=>
  have hx:=hρ x (by simp [Op.operands])
  have hy:=hρ y (by simp [Op.operands])
  split at hs
  ·rename_i id off hx'
   rw [hx'] at hx
   unfold R at hx
   obtain⟨hon,b,h1,h2⟩:=hx
   split at hs
   ·rename_i l ty' hg
    split at hs
    ·rename_i ti vs ht hcs
     split at hs
     ·rename_i hck
      simp only [Option.some.injEq] at hs
      subst hs
      simp only [Bool.and_eq_true,beq_iff_eq,Nat.ble_eq] at hck
      obtain⟨hc1,hc2,hc3⟩:=hck
      obtain⟨⟨b',old,h4,h5,h6,h7⟩, -⟩:=hsee.ob _ _ hg
      rw [h1] at h4
      cases h4
      have hRc:=R_cells hcs hy
      obtain⟨i,hi,hn, -⟩:=(hc.T t ti ht).info
      have hlen:=Rs_length hRc
      have holen:=Rs_length h7
      refine done_store ((hsee.ob _ _ hg).2.2 rfl) hon h1 h5 h6 (Rs_patch h7 hRc hc3) ?_
      have hst:=run_stores (P:=P) b off ty' (a.eval y).cells.toList 0 old w h6 (by rw [hlen];simp at holen;omega) (Rs_one hc2 hRc)
      rw [Nat.add_zero] at hst
      have hsz:(a.eval y).cells.size =i.size:=by rw [←Array.length_toList,hlen,hc1,hn]
      simp [execOp,Instr.storeAt,Instr.sureAddr,h2,storeVar,run_size hi,hsz,hst]
     ·cases hs
    ·cases hs
   ·cases hs
  ·rename_i id ix st off hx'
   rw [hx'] at hx
   unfold R at hx
   obtain⟨hon,b,h1,h2⟩:=hx
   split at hs
   ·rename_i sh L ty' hg
    split at hs
    ·rename_i ti vs ht hcs
     split at hs
     ·rename_i hck
      split at hs
      ·rename_i y' hy'
       simp only [Option.some.injEq] at hs
       subst hs
       simp only [Bool.and_eq_true] at hck
       obtain⟨hc1,hc2,hc3,hc4⟩:=hck
       have hc1:=Nat.eq_of_beq_eq_true hc1
       have hc2:=Nat.eq_of_beq_eq_true hc2
       have hc3:=Nat.eq_of_beq_eq_true hc3
       subst hc1 hc2
       rw [hcp] at hp ⊢
       simp only [List.mem_cons,List.not_mem_nil,or_false,forall_eq,std] at hp
       have hOR:=(hsee.ob _ _ hg).1
       have hlt:ix.toNat<L.length:=by omega
       obtain⟨h0,hO⟩:=hOR
       obtain⟨b',old,h3,h4,h5,h6,h7,h8⟩:=hO.resolve_left fun h=>by rw [h1] at h;cases h.1
       rw [h1] at h3
       cases h3
       have hRc:=R_cells hcs hy
       obtain⟨i,hi,hn, -⟩:=(hc.T t ti ht).info
       have hlen:=Rs_length hRc
       have hun:vs.length=sh.length:=unE_len hy'
       have hul:(a.eval y).cells.toList.length =sh.length:=by rw [hlen,hun]
       have hcap:ix.toNat*sh.length+sh.length≤old.size:=by
        rw [h6]
        calc ix.toNat*sh.length+sh.length=(ix.toNat+1)*sh.length:=by rw [Nat.succ_mul]
         _≤e.cap id*sh.length:=Nat.mul_le_mul_right _ (by omega)
       refine done_set ((hsee.ob _ _ hg).2.2 rfl) (b:=b) (vs:=old) (us:=(a.eval y).cells.toList) hon hlt (hsee.ob _ _ hg).1 h1 h5 hy' hRc hul ?_
       have hst:=run_stores (P:=P) b (ix.toNat*sh.length) ty' (a.eval y).cells.toList 0 old w h5 (by rw [hul];omega) (Rs_one hc4 hRc)
       rw [Nat.add_zero] at hst
       have hsz:(a.eval y).cells.size =i.size:=by rw [←Array.length_toList,hul,hn,hc3]
       simp [execOp,Instr.storeAt,Instr.sureAddr,h2,storeVar,run_size hi,hsz,hst]
      ·cases hs
     ·cases hs
    ·cases hs
   ·cases hs
  ·cases hs
 case h_10 x=>
  have hx:=hρ x (by simp [Op.operands])
  split at hs
  ·rename_i i' o' hx'
   simp only [ok,Option.some.injEq] at hs
   subst hs
   rw [hx'] at hx
   have h2:=hx
   unfold R at h2
   obtain⟨-,b, -,h3⟩:=h2
   exact done_same (by simp [execOp,h3]) (h3 ▸ hx)
  ·rename_i i' o' hx'
   simp only [ok,Option.some.injEq] at hs
   subst hs
   rw [hx'] at hx
   have h2:=hx
   unfold R at h2
   obtain⟨b,_,h3, -⟩:=h2
   exact done_same (by simp [execOp,h3]) (h3 ▸ hx)
  ·rename_i i' j' s' o' hx'
   simp only [ok,Option.some.injEq] at hs
   subst hs
   rw [hx'] at hx
   have h2:=hx
   unfold R at h2
   obtain⟨-,b, -,h3⟩:=h2
   exact done_same (by simp [execOp,h3]) (h3 ▸ hx)
  ·cases hs
 case h_11 op t x y yt=>
  have hx:=hρ x (by simp [Op.operands])
  have hy:=hρ y (by simp [Op.operands])
  have key : ∀out':Out,out'.eff=[]→(∃r,(do eqGuard op t x y (a.eval x) (a.eval y);binOp op t (a.eval x) (a.eval y):Sem Value).run P w=.ok r w∧R w e out'.v r∧out'.eff=[])→Done P ⟨dst,.binOp op t x y yt,ty,pos,aft,gd⟩ a w e nx out':=by
   rintro ⟨pre,v,eff⟩ h0 ⟨r,h1,h2, -⟩
   simp only at h0 h2
   subst h0
   exact done_same (run_value rfl h1) h2
  rw [hcp] at hs
  split at hs
  ·rename_i ht
   obtain⟨d,hu, -,hd⟩:=(hc.T t _ ht).und
   simp only at hd
   subst hd
   have:=binB_ok (P:=P) (x:=x) (y:=y) hu hs hx hy
   exact key _ this.choose_spec.2.2 this
  ·have:=bin_ok (P:=P) (t:=t) (x:=x) (y:=y) hs hp hx hy
   exact key _ this.choose_spec.2.2 this
 case h_12 op t x=>
  have hx:=hρ x (by simp [Op.operands])
  split at hs
  ·obtain⟨q,hq,h2⟩:=Option.bind_eq_some_iff.1 hs
   simp only [ok,Option.some.injEq] at h2
   subst h2
   obtain⟨z,hz,hR⟩:=bnot_ok hq hx
   exact done_same (by simp [execOp,hz,Op.unary]) hR
  ·rename_i k n hx'
   simp only [okp,Option.some.injEq] at hs
   subst hs
   rw [hx',R_i] at hx
   rw [hcp] at hp ⊢
   simp only [List.mem_cons,List.not_mem_nil,or_false,forall_eq,std] at hp
   refine done_same (u:=.int k (0-n)) ?_ (by rw [R_i];rfl)
   have hw:=wrap_in hp
   simp only [execOp,hx,Op.unary,Op.intArith,hw]
   rfl
  ·cases hs
 case h_13 s d x=>
  have hx:=hρ x (by simp [Op.operands])
  split at hs
  ·rename_i tis hts
   obtain⟨ds,hus, -⟩:=(hc.T s tis hts).und
   split at hs
   ·rename_i k _ _ _ ht
    obtain⟨d',hu, -,hd⟩:=(hc.T d _ ht).und
    simp only at hd
    subst hd
    split at hs
    ·rename_i k' n hx'
     simp only [okp,Option.some.injEq] at hs
     subst hs
     rw [hx',R_i] at hx
     rw [hcp] at hp
     simp only [List.mem_cons,List.not_mem_nil,or_false,forall_eq,std] at hp
     refine done_same (u:=.int k n) ?_ (by rw [R_i])
     have hw:=wrap_in hp
     simp [execOp,convert,hx,run_underlying hus,run_underlying hu,Conv.intToInt,hw]
    ·cases hs
   ·rename_i _ _ _ ht
    obtain⟨d',hu, -,hd⟩:=(hc.T d _ ht).und
    simp only at hd
    subst hd
    split at hs
    ·rename_i l hx'
     simp only [ok,Option.some.injEq] at hs
     subst hs
     rw [hx'] at hx
     have h2:=R_s.1 hx
     refine done_same (u:=sv l) ?_ (by rw [R_s])
     simp [execOp,convert,h2,run_underlying hus,run_underlying hu]
    ·cases hs
   ·cases hs
  ·cases hs
 case h_14 t x lo hi=>
  have hx:=hρ x (by simp [Op.operands])
  split at hs
  ·rename_i _ _ _ l ht hx'
   obtain⟨d',hu, -,hd⟩:=(hc.T t _ ht).und
   simp only at hd
   subst hd
   rw [hx',R_s] at hx
   rw [hcp] at hs
   have key : ∀(m n:Nat) (q:List Prop),(match lo.map a.eval with | none=>m=0 | some v=>∃k,v=.int k m)→(match hi.map a.eval with | none=>n=l.length | some v=>∃k,v=.int k n)→m≤n→n≤l.length→Done P ⟨dst,.slice t x lo hi none,ty,pos,aft,gd⟩ a w e nx ⟨q,.s ((l.take n).drop m),[]⟩:=fun m n q h1 h2 h3 h4=>
    done_same (u:=sv ((l.take n).drop m)) (run_value rfl (by rw [hx];exact run_slice_str hu h1 h2 h3 h4)) (by rw [R_s])
   split at hs
   ·rename_i h1 h2
    simp only [ok,Option.some.injEq] at hs
    subst hs
    simp only [Option.map_eq_none_iff] at h1 h2
    subst h1 h2
    have:=key 0 l.length [] rfl rfl (by omega) (Nat.le_refl _)
    simpa using this
   ·rename_i k n h1 h2
    simp only [okp,Option.some.injEq] at hs
    subst hs
    obtain⟨y,rfl,hy⟩:=Option.map_eq_some_iff.1 h1
    simp only [Option.map_eq_none_iff] at h2
    subst h2
    have h3:=hρ y (by simp [Op.operands])
    rw [hy,R_i] at h3
    simp only [List.mem_cons,List.not_mem_nil,or_false,forall_eq_or_imp,forall_eq,std] at hp
    have:=key n.toNat l.length [std.leP 0 n,std.leP n (std.lenS l)] ⟨k,by rw [h3];congr 1;omega⟩ rfl (by omega) (Nat.le_refl _)
    rw [List.take_length] at this
    exact this
   ·rename_i k n h1 h2
    simp only [okp,Option.some.injEq] at hs
    subst hs
    obtain⟨y,rfl,hy⟩:=Option.map_eq_some_iff.1 h2
    simp only [Option.map_eq_none_iff] at h1
    subst h1
    have h3:=hρ y (by simp [Op.operands])
    rw [hy,R_i] at h3
    simp only [List.mem_cons,List.not_mem_nil,or_false,forall_eq_or_imp,forall_eq,std] at hp
    have:=key 0 n.toNat [std.leP 0 n,std.leP n (std.lenS l)] rfl ⟨k,by rw [h3];congr 1;omega⟩ (by omega) (by omega)
    rw [List.drop_zero] at this
    exact this
   ·rename_i k m k' n h1 h2
    simp only [okp,Option.some.injEq] at hs
    subst hs
    obtain⟨y,rfl,hy⟩:=Option.map_eq_some_iff.1 h2
    obtain⟨z,rfl,hz⟩:=Option.map_eq_some_iff.1 h1
    have h3:=hρ y (by simp [Op.operands])
    have h4:=hρ z (by simp [Op.operands])
    rw [hy,R_i] at h3
    rw [hz,R_i] at h4
    simp only [List.mem_cons,List.not_mem_nil,or_false,forall_eq_or_imp,forall_eq,std] at hp
    exact key m.toNat n.toNat _ ⟨k,by rw [h4];congr 1;omega⟩ ⟨k',by rw [h3];congr 1;omega⟩ (by omega) (by omega)
   ·cases hs
  ·cases hs
 case h_15 t x f=>
  have hx:=hρ x (by simp [Op.operands])
  split at hs
  ·rename_i fs n z sh ht
   obtain⟨d',hu, -,hd⟩:=(hc.T t _ ht).und
   simp only at hd
   obtain⟨F,rfl,hF, -⟩:=hd
   split at hs
   ·rename_i k tf hk
    split at hs
    ·rename_i ti hti
     split at hs
     ·cases hs
     ·rename_i hn
      obtain⟨i,hi,hin, -⟩:=(hc.T tf ti hti).info
      obtain⟨fd,hfd,hoff,htf⟩ : ∃fd,F[f]? =some fd∧fd.offset=k∧fd.type=tf:=by
       rw [←hF,List.getElem?_map] at hk
       obtain⟨fd,h1,h2⟩:=Option.map_eq_some_iff.1 hk
       cases h2
       exact⟨fd,by simpa using h1,rfl,rfl⟩
      have hsz:i.size≠0:=by rw [hin];simpa using hn
      have hrun : ∀b o,a.eval x=.pointer (some ⟨b,o,none⟩)→(execOp a.eval ⟨dst,.fieldAddr t x f,ty,pos,aft,gd⟩).run P w=.ok (.value (.pointer (some ⟨b,o+k,none⟩))) w:=fun b o hb=>by
       rw [←htf] at hi
       simp [execOp,Instr.fieldAt,run_underlying hu,hfd,hb,Instr.sureAddr,fieldPlace,run_size hi,hsz,hoff,adr_add]
      split at hs
      ·rename_i id off hx'
       simp only [ok,Option.some.injEq] at hs
       subst hs
       rw [hx'] at hx
       unfold R at hx
       obtain⟨h1,b,h2,h3⟩:=hx
       exact done_same (hrun b off h3) (by unfold R;exact⟨h1,b,h2,rfl⟩)
      ·rename_i l off hx'
       simp only [ok,Option.some.injEq] at hs
       subst hs
       rw [hx'] at hx
       unfold R at hx
       obtain⟨b,o,h1,h2,h3⟩:=hx
       exact done_same (hrun b _ h1) (by unfold R;exact⟨b,o,by rw [Nat.add_assoc],h2,h3⟩)
      ·rename_i id ix st off hx'
       simp only [ok,Option.some.injEq] at hs
       subst hs
       rw [hx'] at hx
       unfold R at hx
       obtain⟨h1,b,h2,h3⟩:=hx
       exact done_same (hrun b _ h3) (by unfold R;exact⟨h1,b,h2,by rw [Nat.add_assoc]⟩)
      ·cases hs
    ·cases hs
   ·cases hs
  ·cases hs
 case h_16 t x f=>
  have hx:=hρ x (by simp [Op.operands])
  split at hs
  ·rename_i fs n z sh ht
   obtain⟨d',hu, -,hd⟩:=(hc.T t _ ht).und
   simp only at hd
   obtain⟨F,rfl,hF, -⟩:=hd
   split at hs
   ·rename_i k tf hk
    split at hs
    ·rename_i l ti hx' hti
     obtain⟨v,hv,h2⟩:=Option.bind_eq_some_iff.1 hs
     simp only [ok,Option.some.injEq] at h2
     subst h2
     obtain⟨fd,hfd,hoff,htf⟩ : ∃fd,F[f]? =some fd∧fd.offset=k∧fd.type=tf:=by
      rw [←hF,List.getElem?_map] at hk
      obtain⟨fd,h1,h2⟩:=Option.map_eq_some_iff.1 hk
      cases h2
      exact⟨fd,by simpa using h1,rfl,rfl⟩
     rw [hx'] at hx
     unfold R at hx
     obtain⟨vs,h3,h4⟩:=hx
     obtain⟨u,h5,h6⟩:=part_at (hc.T tf ti hti) h4 hv
     refine done_same (u:=u) ?_ h6
     simp [execOp,Instr.field,run_underlying hu,hfd,h3,asAgg,hoff,htf,h5]
    ·cases hs
   ·cases hs
  ·cases hs
 case h_17 t x ix=>
  have hx:=hρ x (by simp [Op.operands])
  have hix:=hρ ix (by simp [Op.operands])
  split at hs
  ·rename_i te _ _ _ sh L k n ht hx' hix'
   obtain⟨d',hu, -,hd⟩:=(hc.T t _ ht).und
   simp only at hd
   subst hd
   split at hs
   ·rename_i ti hti
    split at hs
    ·rename_i hsz
     simp only [okp,Option.some.injEq] at hs
     subst hs
     rw [hcp] at hp ⊢
     simp only [List.mem_cons,List.not_mem_nil,or_false,forall_eq,std] at hp
     obtain⟨i,hi,hin, -⟩:=(hc.T te ti hti).info
     have hsz:ti.n=sh.length:=by simpa using hsz
     rw [hx'] at hx
     unfold R at hx
     obtain⟨A,cap,h1,h2,h3⟩:=hx
     rw [hix',R_i] at hix
     have hlt:n.toNat<L.length:=by omega
     obtain⟨b,o,rfl,h4,h5⟩:=h3 n.toNat L[n.toNat] (List.getElem?_eq_getElem hlt)
     refine done_same (u:=.pointer (some ⟨b,o+n.toNat*sh.length,none⟩)) ?_ ?_
     ·simp [execOp,Instr.indexAt,hix,asIntOf,run_underlying hu,h1,hp,run_size hi,hin,hsz,adr_add]
     ·unfold R
      refine⟨b,o+n.toNat*sh.length,rfl,h4,?_⟩
      have : std.get (dE sh) L n=L[n.toNat]:=by
       show L.getD n.toNat _=_
       rw [List.getD_eq_getElem?_getD,List.getElem?_eq_getElem hlt];rfl
      rw [this]
      exact RE_Rc h5
    ·cases hs
   ·cases hs
  ·rename_i te _ _ _ id k n ht hx' hix'
   obtain⟨d',hu, -,hd⟩:=(hc.T t _ ht).und
   simp only at hd
   subst hd
   split at hs
   ·rename_i sh L ty' ti hg hti
    split at hs
    ·rename_i hsz
     simp only [okp,Option.some.injEq] at hs
     subst hs
     rw [hcp] at hp
     simp only [List.mem_cons,List.not_mem_nil,or_false,forall_eq,std] at hp
     obtain⟨i,hi,hin, -⟩:=(hc.T te ti hti).info
     have hsz:ti.n=sh.length:=Nat.eq_of_beq_eq_true hsz
     rw [hx'] at hx
     unfold R at hx
     obtain⟨hon,h1⟩:=hx
     rw [hix',R_i] at hix
     obtain⟨⟨h0,hO⟩, -⟩:=hsee.ob _ _ hg
     have hlt:n.toNat<L.length:=by omega
     obtain⟨b,vs,h3, -⟩:=hO.resolve_left fun h=>by rw [h.2.1] at hlt;simp at hlt
     rw [h0,h3] at h1
     refine done_same (u:=.pointer (some ⟨b,n.toNat*sh.length,none⟩)) ?_ (by unfold R;exact⟨hon,b,h3,by rw [Nat.add_zero]⟩)
     simp [execOp,Instr.indexAt,hix,asIntOf,run_underlying hu,h1,hp,run_size hi,hin,hsz,adr_add]
    ·cases hs
   ·cases hs
  ·cases hs
 case h_18 t x ix=>
  have hx:=hρ x (by simp [Op.operands])
  have hix:=hρ ix (by simp [Op.operands])
  split at hs
  ·rename_i _ _ _ l k n ht hx' hix'
   obtain⟨d',hu, -,hd⟩:=(hc.T t _ ht).und
   simp only at hd
   subst hd
   simp only [okp,Option.some.injEq] at hs
   subst hs
   rw [hcp] at hp ⊢
   simp only [List.mem_cons,List.not_mem_nil,or_false,forall_eq,std] at hp
   rw [hx',R_s] at hx
   rw [hix',R_i] at hix
   have hlt:n.toNat<l.length:=by omega
   refine done_same (u:=.int .u8 (l[n.toNat].toNat : Int)) (run_value rfl ?_) ?_
   ·have hsz:((ByteArray.mk l.toArray).size : Int)=l.length:=by simp [ByteArray.size]
    rw [hx,hix,run_index_string w t _ k n hu,dif_pos ⟨hp.1,by rw [hsz];exact hp.2⟩]
    rfl
   ·rw [R_i]
    show _=Value.int .u8 (((l.getD n.toNat 0).toNat : Nat):Int)
    rw [List.getD_eq_getElem?_getD,List.getElem?_eq_getElem hlt];rfl
  ·cases hs
 case h_19 x ix=>
  have hx:=hρ x (by simp [Op.operands])
  split at hs
  ·rename_i l hx'
   split at hs
   ·rename_i v hv
    simp only [ok,Option.some.injEq] at hs
    subst hs
    rw [hx'] at hx
    unfold R at hx
    obtain⟨vs,h1,h2⟩:=hx
    obtain⟨u,h3,h4⟩:=Rs_get h2 hv
    have h3:vs[ix]? =some u:=by simpa using h3
    exact done_same (by simp [execOp,Instr.extract,h1,h3]) h4
   ·cases hs
  ·cases hs
 case h_20 k=>
  unfold acall at hs
  split at hs
  case h_1 x t=>
   have hx:=hρ x (by simp [Op.operands,Call.operands])
   split at hs
   ·rename_i _ _ _ l ht hx'
    obtain⟨d',hu, -,hd⟩:=(hc.T t _ ht).und
    simp only at hd
    subst hd
    simp only [ok,Option.some.injEq] at hs
    subst hs
    rw [hcp]
    rw [hx',R_s] at hx
    refine done_same (u:=.int .i64 l.length) ?_ (by rw [R_i];rfl)
    exact run_len (x:=x) (t:=t) rfl (by rw [hx,run_len_string w t _ _ hu];simp [goInt,ByteArray.size])
   ·rename_i _ _ _ _ sh L ht hx'
    obtain⟨d',hu, -,hd⟩:=(hc.T t _ ht).und
    simp only at hd
    subst hd
    simp only [ok,Option.some.injEq] at hs
    subst hs
    rw [hcp]
    rw [hx'] at hx
    unfold R at hx
    obtain⟨A,cap,h1, -⟩:=hx
    refine done_same (u:=.int .i64 L.length) ?_ (by rw [R_i];rfl)
    exact run_len (x:=x) (t:=t) rfl (by rw [h1,run_len_slice w t _ A L.length cap (by unfold Program.elem;rw [hu])];rfl)
   ·rename_i _ _ _ _ ht hx'
    obtain⟨d',hu, -,hd⟩:=(hc.T t _ ht).und
    simp only at hd
    subst hd
    simp only [ok,Option.some.injEq] at hs
    subst hs
    rw [hx'] at hx
    unfold R at hx
    have h1:=hx
    refine done_same (u:=.int .i64 (0:Nat)) ?_ (by rw [R_i];rfl)
    exact run_len (x:=x) (t:=t) rfl (by rw [h1,run_len_slice w t _ none 0 0 (by unfold Program.elem;rw [hu])];rfl)
   ·rename_i _ _ _ _ id ht hx'
    obtain⟨d',hu, -,hd⟩:=(hc.T t _ ht).und
    simp only at hd
    subst hd
    split at hs
    ·rename_i sh L ty' hg
     simp only [ok,Option.some.injEq] at hs
     subst hs
     rw [hcp]
     rw [hx'] at hx
     unfold R at hx
     obtain⟨-,h1⟩:=hx
     have h0:=(hsee.ob _ _ hg).1.1
     rw [h0] at h1
     refine done_same (u:=.int .i64 L.length) ?_ (by rw [R_i];rfl)
     exact run_len (x:=x) (t:=t) rfl (by rw [h1,run_len_slice w t _ (e.adr id) L.length (e.cap id) (by unfold Program.elem;rw [hu])];rfl)
    ·cases hs
   ·cases hs
  case h_2 x y t t'=>
   have hx:=hρ x (by simp [Op.operands,Call.operands])
   have hy:=hρ y (by simp [Op.operands,Call.operands])
   split at hs
   ·rename_i htt
    have htt:t=t':=Nat.eq_of_beq_eq_true htt
    subst htt
    split at hs
    ·rename_i te _ _ _ ht
     obtain⟨d',hu, -,hd⟩:=(hc.T t _ ht).und
     simp only at hd
     subst hd
     split at hs
     ·rename_i ti sh M hti hx' hy'
      split at hs
      ·rename_i hok
       simp only [Option.some.injEq] at hs
       subst hs
       rw [hcp] at hp
       simp only [List.mem_cons,List.not_mem_nil,or_false,forall_eq,std] at hp
       have hy2:=rowOf_R hsee hy' hy
       rw [hx'] at hx
       unfold R at hx
       exact done_append (od:=none) (L:=[]) (M:=M) rfl hu (hc.T te ti hti) hok (hfresh nx (Nat.le_refl _) (by simp [AH.get])) hsee.fz.lt (by simp only [List.length_nil];omega) hy2 (.inl ⟨rfl,rfl,hx⟩)
      ·cases hs
     ·rename_i ti id sh' M' hti hx' hy'
      split at hs
      ·rename_i sh L ty' hg
       split at hs
       ·rename_i M hcast
        split at hs
        ·rename_i hok
         simp only [Option.some.injEq] at hs
         subst hs
         rw [Bool.and_eq_true] at hok
         have hty:ty'=te:=Nat.eq_of_beq_eq_true hok.2
         subst hty
         rw [hcp] at hp ⊢
         simp only [List.mem_cons,List.not_mem_nil,or_false,forall_eq,std] at hp
         have hy2:=(rowOf_R hsee hy' hy).cast hcast
         rw [hx'] at hx
         unfold R at hx
         obtain⟨h1,h2,h3⟩:=hsee.ob _ _ hg
         exact done_append (od:=some id) rfl hu (hc.T _ ti hti) hok.1 (hfresh nx (Nat.le_refl _) (by simp [AH.get])) hsee.fz.lt (by omega) hy2 (.inr ⟨id,rfl,h3 rfl,h2,h1,hx.2⟩)
        ·cases hs
       ·cases hs
      ·cases hs
     ·cases hs
    ·cases hs
   ·cases hs
  case h_3 f args ts=>
   have hf:=hρ f (by simp [Op.operands,Call.operands])
   split at hs
   ·rename_i g cap hf'
    rw [hf'] at hf
    unfold R at hf
    obtain⟨vs,h1,h2⟩:=hf
    have hargs:Rs w e (args.toList.map ρ++cap) (args.map a.eval++vs).toList :=by
     rw [Array.toList_append]
     refine Rs_app ?_ h2
     refine Rs_of (by simp) fun i p u hp' hu=>?_
     simp only [List.getElem?_map,Option.map_eq_some_iff,Array.toList_map] at hp' hu
     obtain⟨y,hy,rfl⟩:=hp'
     obtain⟨y',hy',rfl⟩:=hu
     rw [hy] at hy'
     cases hy'
     exact hρ y (by
      have : y∈args:=by rw [←Array.mem_toList_iff];exact List.mem_of_getElem? hy
      simp [Op.operands,Call.operands,this])
    split at hs
    ·rename_i S hS
     have hM:=hc.M g S hS
     simp only at hs
     split at hs
     ·rename_i hcl
      split at hs
      ·rename_i out' hout
       simp only [Option.some.injEq] at hs
       subst hs
       obtain⟨e0,q1,q2,q3,q4,q5,q9,q8,q6,q7⟩:=can_ok hsee hcl (trims_Rs (c:=c) (ts:=ts.toList) hargs)
       obtain⟨fn,f1,f2,f3⟩:=hM.fn
       refine done_call (e0:=e0) (run_call rfl h1 f1 f2 f3) q1 ?_ (.inl fun b hb=>q2 ▸ hb) hfresh
       have:=hM.run _ _ out' hout hp w e0 (args.map a.eval++vs) q1.z q4 (by rw [q3];exact q5) (by rw [q3];exact q9) q8 q6 (nrm_Rs _ _ q7)
       rw [q3] at this
       exact this
      ·cases hs
     ·cases hs
    ·split at hs
     ·rename_i S hS
      have hF:=hc.F g S hS
      simp only at hs
      split at hs
      ·split at hs
       ·rename_i out' hout
        split at hs
        ·cases hs
        ·rename_i hro
         simp only [Bool.not_eq_true,Bool.or_eq_false_iff] at hro
         obtain⟨fn,f1,f2,f3⟩:=hF.fn
         split at hs
         ·split at hs
          ·rename_i sh L ty hv0 he0
           split at hs
           ·rename_i hfl
            simp only [Option.some.injEq] at hs
            subst hs
            obtain⟨pre',v',eff'⟩:=out'
            simp only at hv0 he0
            subst hv0;subst he0
            exact done_frz (e0:={ e.all w with on:=fun _=>False,lv:=fun _=>False }) (run_call rfl h1 f1 f2 f3) (fun _ h=>h) (fun _ h=>h) hfl
             (hF.run _ _ hout hp w (e.all w) _ ⟨fun b hb=>hb,hsee.fz.gl.mono hsee.fz.lt⟩ (nrm_Rs _ _ (trims_Rs (deeps_Rs hsee ⟨hsee.le,fun id o b hg hn hb=>OR_row hn (hsee.ob id o hg).1 b hb⟩ 12 _ _ hargs))))
           ·cases hs
          ·cases hs
         simp only [Option.some.injEq] at hs
         subst hs
         exact done_call (e0:={ e.all w with on:=fun _=>False,lv:=fun _=>False }) (ρ:=[]) (run_call rfl h1 f1 f2 f3) ⟨fun k hk=>hk.elim,fun k hk=>hk.elim,fun k hk=>absurd hk (Nat.not_lt_zero k),fun k _ hk=>absurd hk (Nat.not_lt_zero k),fun k hk=>absurd hk (Nat.not_lt_zero k),hsee.fz.lt,⟨fun b hb=>hb,hsee.fz.gl.mono hsee.fz.lt⟩⟩
          (hF.run _ out' hout hp w (e.all w) _ ⟨fun b hb=>hb,hsee.fz.gl.mono hsee.fz.lt⟩ (nrm_Rs _ _ (trims_Rs (deeps_Rs hsee ⟨hsee.le,fun id o b hg hn hb=>OR_row hn (hsee.ob id o hg).1 b hb⟩ 12 _ _ hargs)))) (.inr hro) hfresh
       ·cases hs
      ·split at hs
       ·rename_i out' hout
        simp only [Option.some.injEq] at hs
        subst hs
        obtain⟨fn,f1,f2,f3⟩:=hF.fn
        exact done_call (e0:={ e with on:=fun _=>False,lv:=fun _=>False }) (ρ:=[]) (run_call rfl h1 f1 f2 f3) ⟨fun k hk=>hk.elim,fun k hk=>hk.elim,fun k hk=>absurd hk (Nat.not_lt_zero k),fun k _ hk=>absurd hk (Nat.not_lt_zero k),fun k hk=>absurd hk (Nat.not_lt_zero k),fun b hb=>hb,hsee.fz⟩
         (hF.run _ out' hout hp w e _ hsee.fz (nrm_Rs _ _ (trims_Rs hargs))) (.inl fun b hb=>hb) hfresh
       ·cases hs
     ·cases hs
   ·cases hs
  case h_4=>cases hs
 case h_21=>cases hs
theorem get_cutA {T:List Nat} {id:Nat} {x:Ob} : ∀{h:AH},(cut T h).get id=some x→id∈T∧h.get id=some x
 | [],hh=>by simp [cut,AH.get] at hh
 | (k,y)::r,hh=>by
   unfold cut at hh
   by_cases hT:T.contains k=true
   ·rw [if_pos hT] at hh
    unfold AH.get at hh ⊢
    split at hh
    ·rename_i hk
     have hk:k=id:=by simpa using hk
     subst hk;cases hh
     exact⟨by simpa using hT,by rw [if_pos (by simp)]⟩
    ·rename_i hk
     rw [if_neg hk]
     exact get_cutA hh
   ·rw [if_neg hT] at hh
    obtain⟨h1,h2⟩:=get_cutA hh
    refine⟨h1,?_⟩
    unfold AH.get
    rw [if_neg (by
     intro hk
     have hk:k=id:=by simpa using hk
     subst hk
     exact hT (by simpa using h1))]
    exact h2
theorem get_cutN {T:List Nat} {id:Nat} {x:Ob} : ∀{h:AH},(cutN T h).get id=some x→id ∉ T∧h.get id=some x
 | [],hh=>by simp [cutN,AH.get] at hh
 | (k,y)::r,hh=>by
   unfold cutN at hh
   by_cases hT:T.contains k=true
   ·rw [if_pos hT] at hh
    obtain⟨h1,h2⟩:=get_cutN hh
    refine⟨h1,?_⟩
    unfold AH.get
    rw [if_neg (by
     intro hk
     have hk:k=id:=by simpa using hk
     subst hk
     exact h1 (by simpa using hT))]
    exact h2
   ·rw [if_neg hT] at hh
    unfold AH.get at hh ⊢
    split at hh
    ·rename_i hk
     have hk:k=id:=by simpa using hk
     subst hk;cases hh
     exact⟨by simpa using hT,by rw [if_pos (by simp)]⟩
    ·rename_i hk
     rw [if_neg hk]
     exact get_cutN hh
theorem ncallR_ok {n:NOut} {g:FuncId} {vals:Array Value} {S:NSpec} {b:Bool} {fzB:Nat→Prop} {vs:List PV} {r:List Nat} (hN:NOk P g S) (hs:ncallR S h r nx vs b=some n) (hp : ∀p∈n.pre,p) (hsee:Sees w { e with fz:=fzB } h)
 (hvs:Rs w { e with fz:=fzB } vs vals.toList) (hz : ∀x,e.fz x→fzB x) (hb:b=false→∀x,fzB x→e.fz x) (hnx : ∀k,nx≤k→¬e.on k) :
 Calls P g vals w fun en w'=>∃x,n.Q x∧∃v E,en=.returned v∧Post w w' e E nx ⟨[],n.v x,n.eff x⟩ v:=by
 unfold ncallR at hs
 split at hs
 ·rename_i hcl
  split at hs
  ·rename_i n' hn'
   simp only [Option.some.injEq] at hs
   subst hs
   obtain⟨e0,q1,q2,q3,q4,q5,q9,q8,q6,q7⟩:=can_ok hsee hcl hvs
   have q2:e0.fz=fzB:=q2
   have q1':Cn w e e0 r nx:=⟨q1.on,q1.lv,q1.vl,q1.inj,q1.lt,fun x hx=>by rw [q2];exact hz x hx,q1.z⟩
   have hp' : ∀p∈n'.pre,p:=fun p h1=>by
    cases b with
    | false=>exact hp p h1
    | true=>exact hp p (List.mem_cons_of_mem _ h1)
   have hro : ∀x,(∀y,e0.fz y→e.fz y)∨(n'.v x).ro =false∧roH (n'.eff x)=false:=fun x=>by
    cases b with
    | false=>exact .inl fun y hy=>hb rfl y (by rw [←q2];exact hy)
    | true=>
      have h1 : ∀x,((n'.v x).ro ||roH (n'.eff x))=false:=hp _ (List.mem_cons_self ..)
      exact .inr (by simpa using h1 x)
   refine (hN.run _ _ n' hn' hp' w e0 vals q1.z q4 (by rw [q3];exact q5) (by rw [q3];exact q9) q8 q6 (nrm_Rs _ _ q7)).mono ?_
   rintro en w' ⟨x,hx,v,e',rfl,hpost⟩
   rw [q3] at hpost
   obtain⟨E,hE⟩:=post_call (out:=⟨[],n'.v x,n'.eff x⟩) q1' hpost (hro x) (fun k hk _=>hnx k hk) (pre:=[])
   exact⟨x,hx,v,E,rfl,hE⟩
  ·cases hs
 ·cases hs
theorem ncall_ok {n:NOut} (hc:CxOk P c) (hs:ncall c o.op ρ h nx=some n) (hp : ∀p∈n.pre,p) (hρ : ∀x∈o.op.operands,R w e (ρ x) (a.eval x)) (hsee:Sees w e h) (hnx : ∀k,nx≤k→¬e.on k) :
 o.wp P a w (fun a' w'=>∃x,n.Q x∧∃u e',a'=a.put o.dst u∧Post w w' e e' nx ⟨[],n.v x,n.eff x⟩ u) fun _ _ _=>False:=by
 unfold ncall at hs
 split at hs
 ·rename_i f args ts ho
  split at hs
  ·rename_i g cap hf'
   have hf:=hρ f (by rw [ho];simp [Op.operands,Call.operands])
   rw [hf'] at hf
   unfold R at hf
   obtain⟨vs,h1,h2⟩:=hf
   have hargs:Rs w e (args.toList.map ρ++cap) (args.map a.eval++vs).toList :=by
    rw [Array.toList_append]
    refine Rs_app ?_ h2
    refine Rs_of (by simp) fun i p u hp' hu=>?_
    simp only [List.getElem?_map,Option.map_eq_some_iff,Array.toList_map] at hp' hu
    obtain⟨y,hy,rfl⟩:=hp'
    obtain⟨y',hy',rfl⟩:=hu
    rw [hy] at hy'
    cases hy'
    exact hρ y (by
     have : y∈args:=by rw [←Array.mem_toList_iff];exact List.mem_of_getElem? hy
     rw [ho];simp [Op.operands,Call.operands,this])
   split at hs
   ·rename_i S hS
    simp only at hs
    have hN:=hc.N g S hS
    obtain⟨fn,f1,f2,f3⟩:=hN.fn
    have hvs:=trims_Rs (c:=c) (ts:=ts.toList) hargs
    generalize trims c ts.toList (args.toList.map ρ++cap)=ws at hs hvs
    have key:Calls P g (args.map a.eval++vs) w fun en w'=>∃x,n.Q x∧∃v E,en=.returned v∧Post w w' e E nx ⟨[],n.v x,n.eff x⟩ v:=by
     split at hs
     ·rename_i n' hs'
      cases hs
      exact ncallR_ok (fzB:=e.fz) hN hs' hp hsee hvs (fun _ h=>h) (fun _ _ h=>h) hnx
     split at hs
     ·generalize reach h 60 (idsL (ws.filter fun v=>!borP h v)) []=r at hs
      have hcl:closed (cut r h) r nx (ws.map fun v=>if borP h v then deep (cutN r h) 12 v else v)=true:=by
       unfold ncallR at hs
       split at hs
       ·rename_i hcl;exact hcl
       ·cases hs
      have hmem : ∀k∈r,∃o,h.get k=some o∧o.gn=false:=by
       unfold closed at hcl
       simp only [Bool.and_eq_true,List.all_eq_true,Nat.blt_eq] at hcl
       obtain⟨-,hall, -⟩:=hcl
       intro k hk
       have:=(hall k hk).2
       split at this
       ·rename_i x hx
        have h3:x.idIn r=true∧x.gn=false:=by simpa using this
        exact⟨x,(get_cutA hx).2,h3.2⟩
       ·cases this
      obtain⟨fzB,hfB⟩ : ∃fzB:Nat→Prop,fzB=fun b=>b<w.heap.size∧∀k∈r,e.lv k→¬e.blk k b:=⟨_,rfl⟩
      have hB : ∀b,fzB b↔b<w.heap.size∧∀k∈r,e.lv k→¬e.blk k b:=fun b=>by rw [hfB]
      have hle:e.Le { e with fz:=fzB }:=⟨fun _ h=>h,fun _ _=>rfl,fun _ _=>rfl,fun _ _=>rfl,fun b hb=>(hB b).2 ⟨hsee.fz.lt b hb,fun k hk _ hkb=>by
       obtain⟨o',ho',hg⟩:=hmem k hk
       exact OR_fz hg (hsee.ob k o' ho').1 b hkb hb⟩⟩
      have hsame:Same e.fz w w:=fun _ _=>rfl
      have hseeB:Sees w { e with fz:=fzB } (cut r h):=⟨fun id o' ho'=>by
       obtain⟨hid,ho'⟩:=get_cutA ho'
       obtain⟨a1,a2,a3⟩:=hsee.ob id o' ho'
       obtain⟨o2,ho2,hg⟩:=hmem id hid
       rw [ho'] at ho2;cases ho2
       exact⟨OR_mono hsame hle a2 (fun b hb=>⟨fun hf=>absurd hb (((hB b).1 hf).2 id hid (a3 hg)),rfl⟩) a1,a2,a3⟩,⟨fun b hb=>((hB b).1 hb).1,hsee.fz.gl.mono hle.fz⟩,hsee.dis⟩
      have hseeN:Sees w e (cutN r h):=⟨fun id o' ho'=>hsee.ob id o' (get_cutN ho').2,hsee.fz,hsee.dis⟩
      have hF:Frz w e (cutN r h) { e with fz:=fzB }:=⟨hle,fun id o' b ho' hg hb=>(hB b).2 (by
       obtain⟨hid,ho'⟩:=get_cutN ho'
       obtain⟨a1,a2,a3⟩:=hsee.ob id o' ho'
       exact⟨OR_row hg a1 b hb,fun k hk hlv hkb=>hid (by rw [hsee.dis id k b (a3 hg) hlv hb hkb];exact hk)⟩)⟩
      refine ncallR_ok hN hs hp hseeB (Rs_of (by rw [List.length_map];exact Rs_length hvs) fun i p u hp' hu=>?_) hle.fz (fun h=>by cases h) hnx
      rw [List.getElem?_map,Option.map_eq_some_iff] at hp'
      obtain⟨q,hq,rfl⟩:=hp'
      obtain⟨u',hu',hR⟩:=Rs_get hvs hq
      rw [hu] at hu';cases hu'
      split
      ·exact deep_R hseeN hF 12 q u hR
      ·exact R_mono hsame hle q u hR
     ·cases hs
    unfold Oper.wp
    rw [run_call ho h1 f1 f2 f3,Oper.upon_enter]
    refine key.mono ?_
    rintro en w' ⟨x,hx,v,E,rfl,hE⟩
    exact⟨x,hx,v,E,rfl,hE⟩
   ·cases hs
  ·cases hs
 ·cases hs
end
end Ax
end Go.Proofs.YtjjonmhpgkahoaaGreatDoor
