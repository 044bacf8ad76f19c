/-
  The plain walker: arrays, bytes of strings, equal structs; The plain walker: strings walked letter by letter, closures, methods; all operations.
  Conditions: the tables of types and of functions are as the program has them.
-/
import Derived.Test.YtjjonmhpgkahoaaGreatDoorS04
import Derived.Laws.IdiomStrings
import Derived.Laws.StructEq
import Derived.Laws.RangeString
import Derived.Lib.OthersKept
import Derived.Laws.MakeOwn
import Derived.Laws.Small
set_option linter.unusedSimpArgs false
set_option linter.unusedVariables false
namespace Go.Proofs.YtjjonmhpgkahoaaGreatDoor
namespace Ax
open Go.RowKit
section
variable {P:Program} {c:Cx} {o:Oper} {ρ:Operand→PV} {h:AH} {nx:Nat} {out:Out} {a:Act} {w:World} {e:Env}
theorem kindOf_ok {t:TypeId} {k:AtTy} (h:kindOf c t=some k) : ∃ti,c.T t=some ti∧ti.sh=[k]∧k.flat=true∧ti.n=1∧ti.agg=false:=by
 unfold kindOf at h
 split at h
 ·rename_i ti ht
  split at h
  ·rename_i k' hs
   split at h
   ·rename_i hk
    cases h
    simp only [Bool.and_eq_true,Bool.not_eq_true'] at hk
    exact⟨ti,ht,hs,hk.1,Nat.eq_of_beq_eq_true hk.2.1,hk.2.2⟩
   ·cases h
  ·cases h
 ·cases h
theorem arrOf_ok (hc:CxOk P c) {t:TypeId} {n:Nat} {k:AtTy} (h:arrOf c t=some (n,k)) : ∃ti te,c.T t=some ti∧ti.n=n∧kindOf c te=some k∧ti.z.length=n∧ti.z.all (zk k)=true∧P.underlying t=some (.array n te)∧ti.agg=true:=by
 unfold arrOf at h
 split at h
 ·rename_i ti ht
  split at h
  ·rename_i n' te hd
   split at h
   ·rename_i k' hk
    split at h
    ·rename_i hz
     cases h
     rw [Bool.and_eq_true,Bool.and_eq_true] at hz
     obtain⟨d,hu, -,hdd⟩:=(hc.T t ti ht).und
     rw [hd] at hdd
     simp only at hdd
     subst hdd
     exact⟨ti,te,ht,Nat.eq_of_beq_eq_true hz.1,hk,Nat.eq_of_beq_eq_true hz.2.1,hz.2.2,hu,by unfold TI.agg;rw [hd]⟩
    ·cases h
   ·cases h
  ·cases h
 ·cases h
theorem pv_val {k:AtTy} (hk:k.flat=true) {x:k.Ty} {u:Value} : R w e (k.pv x) u↔u=k.val x:=by
 cases k with
 | i _=>unfold AtTy.pv R;exact Iff.rfl
 | b=>unfold AtTy.pv R;exact Iff.rfl
 | s=>unfold AtTy.pv R;exact Iff.rfl
 | r _=>cases hk
theorem pvs_val {k:AtTy} (hk:k.flat=true) : ∀{L:List k.Ty} {us:List Value},Rs w e (L.map k.pv) us↔us=L.map k.val
 | [],us=>by rw [List.map_nil,List.map_nil];unfold Rs;exact Iff.rfl
 | x::L,us=>by
   rw [List.map_cons,List.map_cons]
   unfold Rs
   constructor
   ·rintro ⟨u,us',rfl,h1,h2⟩
    rw [(pv_val hk).1 h1,(pvs_val hk).1 h2]
   ·rintro rfl
    exact⟨_,_,rfl,(pv_val hk).2 rfl,(pvs_val hk).2 rfl⟩
theorem zk_val {k:AtTy} {p:PV} {u:Value} (h:zk k p=true) (hr:R w e p u):u=k.val k.dflt:=by
 unfold zk at h
 split at h
 ·split at h
  ·rename_i hk
   have h0:=eq_of_beq h
   subst hk h0
   unfold R at hr;exact hr
  ·cases h
 ·unfold R at hr;exact hr
 ·unfold R at hr;exact hr
 ·cases h
theorem zs_val {k:AtTy} : ∀{ps:List PV} {us:List Value},ps.all (zk k)=true→Rs w e ps us→us=(List.replicate ps.length k.dflt).map k.val
 | [],us,_,hr=>by unfold Rs at hr;subst hr;rfl
 | p::ps,us,h,hr=>by
   rw [List.all_cons,Bool.and_eq_true] at h
   unfold Rs at hr
   obtain⟨u,us',rfl,h1,h2⟩:=hr
   rw [zk_val h.1 h1,zs_val h.2 h2]
   rfl
theorem val_one {k:AtTy} (hk:k.flat=true) (x:k.Ty):(k.val x).oneCell' =true:=by
 cases k with
 | i _=>rfl
 | b=>rfl
 | s=>rfl
 | r _=>cases hk
theorem done_mk {pre:List Prop} {ob:Ob} {v:PV} {u:Value} {w':World} {cp ln:Nat} (hg:ob.gn=false) (hn : ¬e.on nx) (hz : ∀b,e.fz b→b<w.heap.size) (hw:Below w.heap.size w w') (hsz:w.heap.size<w'.heap.size) (hr:(execOp a.eval o).run P w=.ok (.value u) w')
 (hO : ∀E:Env,E.adr nx=some ⟨w.heap.size,0,none⟩→E.cap nx=cp→E.len nx=ln→¬E.fz w.heap.size→E.on nx→OR w' E nx ob∧R w' E v u):Done P o a w e nx ⟨pre,v,[(nx,ob)]⟩:=by
 unfold Done Oper.wp
 rw [hr]
 obtain⟨E,hE⟩ : ∃E:Env,E={ adr:=fun k=>if k=nx then some ⟨w.heap.size,0,none⟩ else e.adr k,cap:=fun k=>if k=nx then cp else e.cap k,len:=fun k=>if k=nx then ln else e.len k,fz:=e.fz,on:=fun k=>k=nx∨e.on k,lv:=fun k=>k=nx∨e.lv k }:=⟨_,rfl⟩
 have hLe:e.Le E:=by
  subst hE
  exact⟨fun k hk=>.inr hk,fun k hk=>if_neg fun h:k=nx=>hn (h ▸ hk),fun k hk=>if_neg fun h:k=nx=>hn (h ▸ hk),fun k hk=>if_neg fun h:k=nx=>hn (h ▸ hk),fun b hb=>hb⟩
 have hEa:E.adr nx=some ⟨w.heap.size,0,none⟩:=by subst hE;exact if_pos rfl
 have hEc:E.cap nx=cp:=by subst hE;exact if_pos rfl
 have hEl:E.len nx=ln:=by subst hE;exact if_pos rfl
 have hEf:E.fz=e.fz:=by subst hE;rfl
 have hEo : ∀k,E.on k↔k=nx∨e.on k:=fun k=>by subst hE;exact Iff.rfl
 have hEv : ∀k,E.lv k↔k=nx∨e.lv k:=fun k=>by subst hE;exact Iff.rfl
 have hget : ∀k o',AH.get [(nx,ob)] k=some o'→k=nx∧o'=ob:=fun k o' hk=>by
  unfold AH.get at hk
  split at hk
  ·rename_i hkk;exact⟨(by simpa using hkk:nx=k).symm,by cases hk;rfl⟩
  ·cases hk
 obtain⟨hO1,hO2⟩:=hO E hEa hEc hEl (fun hf=>by rw [hEf] at hf;exact absurd (hz _ hf) (Nat.lt_irrefl _)) ((hEo nx).2 (.inl rfl))
 refine⟨_,E,rfl,hO2,hLe,.of fun b hb=>by rw [hEf] at hb;exact hb,?_,?_,?_,fun k hk=>.inl ((hEv k).2 (.inr hk)),?_,.of_below hw⟩
 ·intro k o' hk
  obtain⟨rfl,rfl⟩:=hget k o' hk
  exact⟨hO1,(hEo _).2 (.inl rfl),fun _=>(hEv _).2 (.inl rfl)⟩
 ·intro k hk
  rcases (hEo k).1 hk with rfl | hk
  ·exact .inr ⟨Nat.le_refl _,by simp [AH.get]⟩
  ·exact .inl hk
 ·intro k hk
  rcases (hEv k).1 hk with rfl | hk
  ·refine .inr ⟨hn,(hEo _).2 (.inl rfl),fun b ⟨x,h1,h2⟩=>?_⟩
   rw [hEa] at h1
   cases h1
   subst h2
   exact⟨hsz,.inl (Nat.le_refl _)⟩
  ·exact .inl hk
 ·intro k k' b hk hk1 hk' hk1' _ _
  rw [((hEv k).1 hk).resolve_right hk1,((hEv k').1 hk').resolve_right hk1']
theorem done_upd {pre:List Prop} {id b:Nat} {ob:Ob} {vs':Array Value} (hlv:e.lv id) (hon:e.on id) (ha:e.adr id=some ⟨b,0,none⟩) (hO:OR (w.setRow b vs') e id ob) (hr:(execOp a.eval o).run P w=.ok .skip (w.setRow b vs')) :
 Done P o a w e nx ⟨pre,.tup [],[(id,ob)]⟩:=by
 unfold Done Oper.wp
 rw [hr]
 have hget : ∀k o',AH.get [(id,ob)] k=some o'→k=id∧o'=ob:=fun k o' hk=>by
  unfold AH.get at hk
  split at hk
  ·rename_i hkk;exact⟨(by simpa using hkk:id=k).symm,by cases hk;rfl⟩
  ·cases hk
 refine⟨undef,e,rfl,?_,.refl e,.of fun _ h=>h,?_,fun k hk=>.inl hk,fun k hk=>.inl hk,fun k hk=>.inl hk,fun k _ _ h1 h2=>absurd h1 h2,?_⟩
 ·unfold R;exact⟨#[],rfl,by unfold Rs;rfl⟩
 ·intro k o' hk
  obtain⟨rfl,rfl⟩:=hget k o' hk
  exact⟨hO,hon,fun _=>hlv⟩
 ·refine⟨rfl,rfl,rfl,by simp [World.setRow],fun x hx hM=>?_⟩
  have : x≠b:=fun h=>hM ⟨id,hlv,by simp [AH.get],_,ha,h.symm⟩
  simp only [World.setRow,Array.getElem?_modify]
  rw [if_neg (by omega)]
theorem setRow_id' (w:World) (g:Nat) (cur:Array Value) (t:TypeId) (fr:Nat×Nat) (hg:w.heap[g]? =some (.cells cur t fr)):w.setRow g cur=w:=by
 have hlt:g<w.heap.size:=(Array.getElem?_eq_some_iff.1 hg).1
 have hv:w.heap[g]=.cells cur t fr:=(Array.getElem?_eq_some_iff.1 hg).2
 unfold World.setRow
 cases w with
 | mk heap tape drawn os output=>
   congr 1
   apply Array.ext
   ·simp
   ·intro k h1 h2
    simp only [Array.getElem_modify]
    split
    ·rename_i hk;subst hk;simp at hv;simp [hv]
    ·rfl
theorem run_stores' (g o:Nat) (t:TypeId) (fr:Nat×Nat) : ∀(vs:List Value) (i:Nat) (cur:Array Value) (w:World),w.heap[g]? =some (.cells cur t fr)→(fr=(0,0)∨cur.size≤fr.1)→o+i+vs.length≤cur.size→(∀v∈vs,v.oneCell'=true)→
 (storeCells ⟨g,o,none⟩ vs i).run P w=.ok () (w.setRow g (patch cur (o+i) vs))
 | [],i,cur,w,hg,_,hl,_=>by
   show Result.ok () w=_
   rw [patch,setRow_id' w g cur t fr hg]
 | v::rest,i,cur,w,hg,hfr,hl,h1=>by
   have hi:o+i<cur.size:=by simp at hl;omega
   have hadd:=adr_add g o i
   have hcell:w.cell? ⟨g,o+i,none⟩=some cur[o+i]:=by simp [World.cell?,hg,hi]
   have hfro:w.frozen? ⟨g,o+i,none⟩=false:=by
    rcases hfr with rfl | hfr
    ·simp [World.frozen?,hg]
    ·simp [World.frozen?,hg];intro;omega
   have hst:(store ((⟨g,o,none⟩:Addr).add i) v).run P w=.ok () (w.setRow g (cur.setIfInBounds (o+i) v)):=by
    rw [hadd,run_store P w _ v _ (h1 v (by simp)),hcell]
    simp [hfro,setCell_eq_setRow w g (o+i) cur t fr v hg]
   have ih:=run_stores' g o t fr rest (i+1) (cur.setIfInBounds (o+i) v) (w.setRow g (cur.setIfInBounds (o+i) v)) (setRow_heap w g cur _ t _ hg) (by simpa using hfr) (by simp at hl ⊢;omega) (fun x hx=>h1 x (by simp [hx]))
   simp only [storeCells,Sem.run_bind,hst,Result.andThen_ok,ih,setRow_setRow]
   rfl
theorem arr_at {k:AtTy} {L:List k.Ty} {b:Nat} {vs:Array Value} {ty:TypeId} {fr:Nat×Nat} (hk:k.flat=true) (hg:w.heap[b]? =some (.cells vs ty fr)) (h : ∀(i:Nat) (x:k.Ty),L[i]? =some x→vs[i]? =some (k.val x)):Rs w e (L.map k.pv) (L.map k.val)∧At w b 0 (L.map k.val):=by
 refine⟨(pvs_val hk).2 rfl,fun j v hj=>?_⟩
 rw [List.getElem?_map,Option.map_eq_some_iff] at hj
 obtain⟨x,hx,rfl⟩:=hj
 rw [Nat.zero_add,arr_cell hg]
 exact h j x hx
theorem ldC_one {ti:TI} (hn:ti.n=1) (ha:ti.agg=false) {l:List PV} {i:Nat} {p:PV} (h:l[i]? =some p):ldC ti l i=some p:=by
 have h1:(l.drop i).take 1=[p]:=by
  obtain⟨hlt,rfl⟩:=List.getElem?_eq_some_iff.1 h
  rw [List.drop_eq_getElem_cons hlt]
  rfl
 unfold ldC
 simp only [hn,h1,ha,List.length_singleton,BEq.rfl,if_true,Bool.false_eq_true,if_false]
theorem getD_map {k:AtTy} {L:List k.Ty} {i:Nat} (h:i<L.length) (d:k.Ty):(L.map k.pv)[i]? =some (k.pv (L.getD i d)):=by
 rw [List.getElem?_map,List.getElem?_eq_getElem h,List.getD_eq_getElem?_getD,List.getElem?_eq_getElem h]
 rfl
theorem un1_val {k:AtTy} (hk:k.flat=true) {p:PV} {y:k.Ty} {u:Value} (h:un1 k p=some y) (hr:R w e p u):u=k.val y:=by
 have:=un1_RA (fz:=e.fz) (fun _ h=>h) h hr
 cases k with
 | i _=>rw [RA_i] at this;exact this
 | b=>rw [RA_b] at this;exact this
 | s=>rw [RA_s] at this;exact this
 | r _=>cases hk
theorem bytes_row {h:AH} (hs:Sees w e h) {p:PV} {L:List Int} {v:Value} (hb:bytesOf h p=some L) (hr:R w e p v) : ∃A cp,v=.slice A L.length cp∧(A=none→L=[])∧∀ad,A=some ad→∀(i:Nat) (x:Int),L[i]? =some x→w.cell? (ad.add i)=some (.int .u8 x):=by
 unfold bytesOf at hb
 split at hb
 ·cases hb
  unfold R at hr
  exact⟨none,0,hr,fun _=>rfl,fun ad h=>by cases h⟩
 ·split at hb
  ·rename_i r hrow
   obtain⟨A,cp,rfl,h2⟩:=(rowOf_R hs hrow hr).cast hb
   refine⟨A,cp,rfl,fun hA=>?_,fun ad hA i x hx=>?_⟩
   ·cases L with
    | nil=>rfl
    | cons x L=>obtain⟨b,o,h3, -⟩:=h2 0 x rfl;rw [hA] at h3;cases h3
   ·obtain⟨b,o,h3,h4⟩:=h2 i x hx
    rw [hA] at h3
    cases h3
    unfold RE REs RE2 at h4
    obtain⟨u,h5,h6⟩:=h4
    rw [RA_i] at h6
    rw [adr_add,←h6,←h5]
    simp
  ·cases hb
theorem toS_fold : ∀(L:List Int) (r:ByteArray),L.foldl (fun r n=>r.push (UInt8.ofNat n.toNat)) r=⟨r.data++(std.toS L).toArray⟩
 | [],r=>by simp [std,toSl]
 | n::L,r=>by
   rw [List.foldl_cons,toS_fold L]
   simp [std,toSl,ByteArray.push]
theorem run_str {s d te:TypeId} {A:Option Addr} {L:List Int} {cp:Nat} (hs:P.underlying s=some (.slice te)) (he:P.underlying te=some (.int .u8)) (hd:P.underlying d=some .string) (h0:A=none→L=[])
 (h1 : ∀ad,A=some ad→∀(i:Nat) (x:Int),L[i]? =some x→w.cell? (ad.add i)=some (.int .u8 x)):(convert s d (.slice A L.length cp)).run P w=.ok (sv (std.toS L)) w:=by
 rw [run_convert_bytes_string w s d te A L.length cp hs he hd]
 cases A with
 | none=>
   rw [h0 rfl]
   rfl
 | some ad=>
   have hl:=run_loadCells_list (P:=P) w ad (L.map (Value.int .u8)) (fun j v hj=>by
    rw [List.getElem?_map,Option.map_eq_some_iff] at hj
    obtain⟨x,hx,rfl⟩:=hj
    exact h1 ad rfl j x hx)
   rw [List.length_map] at hl
   rw [run_bytesToString w ad L.length cp L hl,toS_fold]
   simp [sv]
theorem bOf_ok {p:PV} {x:Bool} {u:Value} (h:bOf p=some x) (hr:R w e p u):u=.bool x:=by
 unfold bOf at h
 split at h<;>cases h<;>unfold R at hr<;>exact hr
theorem eqFs_ok (hc:CxOk P c) {f:TypeId→PV→PV→Option Bool} {d:Nat} (hf : ∀t p q u v r,f t p q=some r→R w e p u→R w e q v→(Op.equalIn d t u v).run P w=.ok r w) {xs ys:Array Value} {l m:List PV} (hl:Rs w e l xs.toList) (hm:Rs w e m ys.toList) :
 ∀(F:List Field) (r:Bool),(∀g∈F,g.name≠"_")→eqFs f c l m (F.map fun g=>(g.offset,g.type))=some r→(Op.eqFields d xs ys F).run P w=.ok r w
 | [],r,_,h=>by
   simp only [List.map_nil,eqFs,Option.some.injEq] at h
   subst h
   rfl
 | g::F,r,hn,h=>by
   simp only [List.map_cons,eqFs] at h
   unfold Op.eqFields
   rw [if_pos (hn g (by simp))]
   split at h
   ·rename_i ti ht
    split at h
    ·rename_i x y hx hy
     obtain⟨u,h1,h2⟩:=part_at (hc.T _ ti ht) hl hx
     obtain⟨v,h3,h4⟩:=part_at (hc.T _ ti ht) hm hy
     split at h
     ·rename_i b hb
      have h5:=hf _ _ _ _ _ _ hb h2 h4
      simp only [Sem.run_bind,h1,Result.andThen_ok,h3,h5]
      split at h
      ·rename_i hF
       cases h
       have hF:F=[]:=by simpa using hF
       subst hF
       cases r<;>rfl
      ·split at h
       ·rename_i b' hb'
        have h6:=eqFs_ok hc hf hl hm F b' (fun g hg=>hn g (by simp [hg])) hb'
        rw [hc.p] at h
        cases h
        cases b
        ·rfl
        ·simp only [Bool.not_true,Bool.false_eq_true,if_false,h6,std,Bool.true_and]
       ·cases h
     ·cases h
    ·cases h
   ·cases h
theorem eqV_ok (hc:CxOk P c) : ∀(n d:Nat) (t:TypeId) (p q:PV) (u v:Value) (r:Bool),n≤d→eqV c n t p q=some r→R w e p u→R w e q v→(Op.equalIn d t u v).run P w=.ok r w
 | 0,_,_,_,_,_,_,_,_,h,_,_=>by cases h
 | n+1,0,_,_,_,_,_,_,hd,_,_,_=>by omega
 | n+1,d+1,t,p,q,u,v,r,hd,h,hp,hq=>by
   unfold eqV at h
   split at h
   ·rename_i ti ht
    obtain⟨D,hu, -,hD⟩:=(hc.T t ti ht).und
    rw [hc.p] at h
    split at h
    ·rename_i k hk
     rw [hk] at hD
     simp only at hD
     subst hD
     split at h
     ·split at h
      ·rename_i hkk
       cases h
       rw [R_i] at hp hq
       subst hp hq hkk
       exact run_equalIn_int w d t _ _ _ _ hu
      ·cases h
     ·cases h
    ·rename_i hk
     rw [hk] at hD
     simp only at hD
     subst hD
     split at h
     ·rename_i h1 h2
      cases h
      rw [bOf_ok h1 hp,bOf_ok h2 hq]
      exact run_equalIn_bool' w d t _ _ hu
     ·cases h
    ·rename_i hk
     rw [hk] at hD
     simp only at hD
     subst hD
     split at h
     ·rename_i x y
      cases h
      rw [R_s] at hp hq
      subst hp hq
      have:=run_equalIn_string (P:=P) w d t ⟨x.toArray⟩ ⟨y.toArray⟩ hu
      simp only [ByteArray.toList_eq] at this
      exact this
     ·cases h
    ·rename_i fs hk
     rw [hk] at hD
     simp only at hD
     obtain⟨F,rfl,hF, -⟩:=hD
     split at h
     ·split at h
      ·rename_i hC
       have hE:=hc.C t hC
       unfold R at hp hq
       obtain⟨xs,rfl,hp⟩:=hp
       obtain⟨ys,rfl,hq⟩:=hq
       have hfo:P.fieldsOf t=F:=by unfold Program.fieldsOf;rw [hu]
       rw [run_equalIn_struct w d t xs ys (by rw [hfo];exact hu) hE.held,hfo]
       exact eqFs_ok hc (fun t p q u v r=>eqV_ok hc n d t p q u v r (by omega)) hp hq F.toList r (hE.nm F hu) (by rw [hF];exact h)
      ·cases h
     ·cases h
    ·cases h
   ·cases h
theorem aopX_ok (hc:CxOk P c) (hs:aopX c o.op ρ h nx=some out) (hp : ∀p∈out.pre,p) (hρ : ∀x∈o.op.operands,R w e (ρ x) (a.eval x)) (hsee:Sees w e h)
 (hfresh : ∀k,nx≤k→(out.eff.get k).isSome =true→¬e.on k):Done P o a w e nx out:=by
 obtain⟨dst,op,ty,pos,aft,gd⟩:=o
 simp only at hs hρ
 have hcp:=hc.p
 unfold aopX at hs
 split at hs
 case h_1 t d x=>
  have hx:=hρ x (by simp [Op.operands])
  split at hs
  ·rename_i te _ _ _ _ _ _ ht hd
   obtain⟨_,hut, -,hd1⟩:=(hc.T t _ ht).und
   simp only at hd1
   subst hd1
   obtain⟨_,hud, -,hd2⟩:=(hc.T d _ hd).und
   simp only at hd2
   subst hd2
   split at hs
   ·rename_i _ _ _ hte
    obtain⟨_,hue, -,hd3⟩:=(hc.T te _ hte).und
    simp only at hd3
    subst hd3
    split at hs
    ·rename_i L hL
     simp only [ok,Option.some.injEq] at hs
     subst hs
     obtain⟨A,cp,h1,h2,h3⟩:=bytes_row hsee hL hx
     rw [hcp]
     exact done_same (u:=sv (std.toS L)) (run_value rfl (by rw [h1];exact run_str hut hue hud h2 h3)) (by rw [R_s])
    ·cases hs
   ·cases hs
  ·rename_i _ _ _ te _ _ _ ht hd
   obtain⟨_,hut, -,hd1⟩:=(hc.T t _ ht).und
   simp only at hd1
   subst hd1
   obtain⟨_,hud, -,hd2⟩:=(hc.T d _ hd).und
   simp only at hd2
   subst hd2
   split at hs
   ·rename_i _ _ _ l hte hl
    obtain⟨_,hue, -,hd3⟩:=(hc.T te _ hte).und
    simp only at hd3
    subst hd3
    simp only [Option.some.injEq] at hs
    subst hs
    rw [hl,R_s] at hx
    have hrun:=run_bytes_of_string (P:=P) w t d te ⟨l.toArray⟩ hut hud hue
    have hsz:(ByteArray.mk l.toArray).size =l.length:=by simp [ByteArray.size]
    rw [hsz] at hrun
    have hcap:l.length≤grownCap w l.length 0 te:=by
     exact grownCap_ge w l.length 0 te
    rw [hcp]
    refine done_mk (u:=.slice (some ⟨w.heap.size,0,none⟩) l.length (grownCap w l.length 0 te)) (w':=w.drew.alloc (.cells (bytesRow ⟨l.toArray⟩ (grownCap w l.length 0 te)) te ((bytesRow ⟨l.toArray⟩ (grownCap w l.length 0 te)).size,(bytesRow ⟨l.toArray⟩ (grownCap w l.length 0 te)).size + 1))) (cp:=grownCap w l.length 0 te) (ln:=l.length) rfl (hfresh nx (Nat.le_refl _) (by simp [AH.get])) hsee.fz.lt ?_ ?_ (by simp only [execOp,hx,Sem.run_bind,hrun,Result.andThen_ok];rfl) fun E hEa hEc hEl hEf hEo=>⟨?_,?_⟩
    ·exact ((Below.refl _ w).drew).alloc (Nat.le_refl _) _
    ·show _<(w.heap.push _).size
     rw [Array.size_push];omega
    ·have hgb:(w.drew.alloc (.cells (bytesRow ⟨l.toArray⟩ (grownCap w l.length 0 te)) te ((bytesRow ⟨l.toArray⟩ (grownCap w l.length 0 te)).size,(bytesRow ⟨l.toArray⟩ (grownCap w l.length 0 te)).size + 1))).heap[w.heap.size]? =some (.cells (bytesRow ⟨l.toArray⟩ (grownCap w l.length 0 te)) te ((bytesRow ⟨l.toArray⟩ (grownCap w l.length 0 te)).size,(bytesRow ⟨l.toArray⟩ (grownCap w l.length 0 te)).size + 1)):=by
      show (w.heap.push _)[w.heap.size]? =_
      simp
     refine⟨rfl,by rw [hEl];simp [std,toBl],_,_,_,hEa,hEf,hgb,.inr (Nat.le_refl _),by rw [hEc];simpa [std,toBl] using hcap,?_,(fun m hm=>by cases hm),fun i x hi=>?_⟩
     ·simp [std,toBl,bytesRow]
     ·simp only [std,toBl,List.getElem?_map,Option.map_eq_some_iff] at hi
      obtain⟨b,hb,rfl⟩:=hi
      obtain⟨hlt,rfl⟩:=List.getElem?_eq_some_iff.1 hb
      have:=bytesRow_at ⟨l.toArray⟩ (grownCap w l.length 0 te) i (by simpa using hlt)
      simpa [AtTy.val] using this
    ·unfold R
     exact⟨hEo,by rw [hEa,hEc,hEl]⟩
   ·cases hs
  ·cases hs
 case h_2 t=>
  split at hs
  ·rename_i n k hk
   simp only [Option.some.injEq] at hs
   subst hs
   obtain⟨ti,te,ht,hn,hke,hzl,hza,hu,hag⟩:=arrOf_ok hc hk
   obtain⟨-, -, -,hfl, -⟩:=kindOf_ok hke
   obtain⟨i,hi,hin,z,hz,hzz⟩:=(hc.T t ti ht).info
   have hcells:=zs_val hza (zOk_Rs w e _ _ hzz)
   rw [hzl] at hcells
   refine done_mk (u:=.pointer (some ⟨w.heap.size,0,none⟩)) (w':=w.alloc (.cells z.cells t)) (cp:=n) (ln:=n) rfl (hfresh nx (Nat.le_refl _) (by simp [AH.get])) hsee.fz.lt ((Below.refl _ _).alloc (Nat.le_refl _) _) (by show _<(w.heap.push _).size;rw [Array.size_push];omega) ?_ fun E hEa hEc hEl hEf hEo=>⟨?_,?_⟩
   ·simp [execOp,Instr.alloc,zeroValue,typeInfo,hi,hz,newVar,newRow]
   ·refine⟨hfl,by rw [hEl];simp,_,_,_,hEa,hEf,heap_alloc_new w _,.inl rfl,by rw [hEc];simp,?_,fun m hm=>?_,fun i x hx=>?_⟩
    ·rw [←Array.length_toList,hcells];simp
    ·cases hm;exact⟨by simp,by rw [←Array.length_toList,hcells];simp⟩
    ·rw [←Array.getElem?_toList,hcells,List.getElem?_map,hx];rfl
   ·unfold R;exact⟨hEo,_,hEa,rfl⟩
  ·cases hs
 case h_3 t x=>
  split at hs
  ·rename_i k n L hl
   simp only [Option.some.injEq] at hs
   subst hs
   have hx:=hρ x (by simp [Op.operands])
   rw [hl] at hx
   unfold R at hx
   obtain⟨hfl,hn,hv⟩:=hx
   refine done_mk (u:=.pointer (some ⟨w.heap.size,0,none⟩)) (w':=w.alloc (.cells (L.map k.val).toArray t)) (cp:=n) (ln:=n) rfl (hfresh nx (Nat.le_refl _) (by simp [AH.get])) hsee.fz.lt ((Below.refl _ _).alloc (Nat.le_refl _) _) (by show _<(w.heap.push _).size;rw [Array.size_push];omega) ?_ fun E hEa hEc hEl hEf hEo=>⟨?_,?_⟩
   ·simp [execOp,Instr.box,newVar,newRow,hv,Value.cells]
   ·refine⟨hfl,by rw [hEl,hn],_,_,_,hEa,hEf,heap_alloc_new w _,.inl rfl,by rw [hEc,hn];exact Nat.le_refl _,by simp,fun m hm=>?_,fun i x hx=>by simp [hx]⟩
    cases hm;exact⟨hn,by simp [hn]⟩
   ·unfold R;exact⟨hEo,_,hEa,rfl⟩
  ·cases hs
 case h_4 t ps=>
  split at hs
  ·rename_i n k hk hps
   simp only [ok,Option.some.injEq] at hs
   subst hs
   obtain⟨ti,te,ht,hn,hke,hzl,hza,hu,hag⟩:=arrOf_ok hc hk
   obtain⟨-, -, -,hfl, -⟩:=kindOf_ok hke
   obtain⟨i,hi,hin,z,hz,hzz⟩:=(hc.T t ti ht).info
   have hcells:=zs_val hza (zOk_Rs w e _ _ hzz)
   rw [hzl] at hcells
   have hpe:ps=#[]:=by cases ps;simp at hps;subst hps;rfl
   subst hpe
   refine done_same (u:=.agg z.cells) (run_value rfl (run_build w t _ z.cells ?_)) ?_
   ·obtain⟨tie,hte, -⟩:=kindOf_ok hke
    obtain⟨ie,hie, -⟩:=(hc.T te tie hte).info
    unfold Program.built
    simp [hi,hu,hz,hie,Instr.fill]
   ·unfold R
    exact⟨hfl,by simp,by rw [←hcells]⟩
  ·cases hs
 case h_5 t x=>
  have hx:=hρ x (by simp [Op.operands])
  split at hs
  ·rename_i id hx'
   rw [hx'] at hx
   unfold R at hx
   obtain⟨hon,b,h1,h2⟩:=hx
   split at hs
   ·rename_i k n L ty' m k' hg hm
    split at hs
    ·rename_i hnm
     have hnm:=Nat.eq_of_beq_eq_true hnm
     subst hnm
     simp only [ok,Option.some.injEq] at hs
     subst hs
     obtain⟨ti,te,ht,hn,hke,hzl,hza,hu,hag⟩:=arrOf_ok hc hm
     obtain⟨⟨hfl,h0,b',vs,fr,h3,h4,h5,h6,h7,h8,h9,h10⟩, -⟩:=hsee.ob _ _ hg
     rw [h1] at h3
     cases h3
     obtain⟨q1,q2⟩:=h9 n rfl
     obtain⟨r1,r2⟩:=arr_at (e:=e) hfl h5 h10
     obtain⟨u,hu',hR⟩:=load_at (off:=0) (hc.T t ti ht) r1 r2 (p:=.agg (L.map k.pv)) (by
      unfold ldC
      simp [hn,hag,q1,List.take_of_length_le])
     rw [Nat.zero_add] at hu'
     refine done_same (u:=u) (by simp [execOp,Instr.loadAt,Instr.sureAddr,h2,hu']) ?_
     unfold R at hR ⊢
     obtain⟨vs',rfl,h12⟩:=hR
     refine⟨hfl,q1,?_⟩
     rw [←(pvs_val hfl).1 h12]
    ·cases hs
   ·cases hs
  ·rename_i id ix st off hx'
   rw [hx'] at hx
   unfold R at hx
   obtain⟨hon,b,h1,h2⟩:=hx
   split at hs
   ·rename_i k n L ty' k' hg hk'
    split at hs
    ·rename_i hck
     simp only [Bool.and_eq_true] at hck
     have hst:=Nat.eq_of_beq_eq_true hck.1
     have hof:=Nat.eq_of_beq_eq_true hck.2.1
     subst hst hof
     simp only [okp,Option.some.injEq] at hs
     subst hs
     obtain⟨ti,ht, -, -,hn1,hag⟩:=kindOf_ok hk'
     obtain⟨⟨hfl,h0,b',vs,fr,h3,h4,h5,h6,h7,h8,h9,h10⟩, -⟩:=hsee.ob _ _ hg
     rw [h1] at h3
     cases h3
     simp only [List.mem_cons,List.not_mem_nil,or_false,forall_eq] at hp
     have hlt:0≤ix∧ix<L.length:=by
      cases n with
      | none=>unfold arrN at hp;rw [hcp] at hp;exact hp
      | some m=>unfold arrN at hp;rw [hcp] at hp;rw [(h9 m rfl).1];exact hp
     obtain⟨r1,r2⟩:=arr_at (e:=e) hfl h5 h10
     obtain⟨u,hu',hR⟩:=load_at (off:=ix.toNat) (hc.T t ti ht) r1 r2 (ldC_one hn1 hag (getD_map (by omega) k.dflt))
     rw [Nat.zero_add] at hu'
     rw [hcp]
     exact done_same (u:=u) (by simp [execOp,Instr.loadAt,Instr.sureAddr,h2,hu']) hR
    ·cases hs
   ·cases hs
  ·cases hs
 case h_6 t x y=>
  have hx:=hρ x (by simp [Op.operands])
  have hy:=hρ y (by simp [Op.operands])
  split at hs
  ·rename_i id hx'
   rw [hx'] at hx
   unfold R at hx
   obtain⟨hon,b,h1,h2⟩:=hx
   split at hs
   ·rename_i k0 n L0 ty' k n' L m k'' hg hy' hm
    split at hs
    ·rename_i hnm
     rw [Bool.and_eq_true] at hnm
     have hnm1:=Nat.eq_of_beq_eq_true hnm.1
     have hnm2:=Nat.eq_of_beq_eq_true hnm.2
     subst hnm1 hnm2
     simp only [Option.some.injEq] at hs
     subst hs
     rw [hy'] at hy
     unfold R at hy
     obtain⟨hfl,hLn,hv⟩:=hy
     obtain⟨ti,te,ht,hn, -⟩:=arrOf_ok hc hm
     obtain⟨i,hi,hin, -⟩:=(hc.T t ti ht).info
     obtain⟨⟨hfl0,h0,b',vs,fr,h3,h4,h5,h6,h7,h8,h9,h10⟩, -⟩:=hsee.ob _ _ hg
     rw [h1] at h3
     cases h3
     obtain⟨q1,q2⟩:=h9 n rfl
     have hst:=run_stores' (P:=P) b 0 ty' fr (L.map k.val) 0 vs w h5 h6 (by simp;omega) (fun v hv=>by obtain⟨x, -,rfl⟩:=List.mem_map.1 hv;exact val_one hfl x)
     rw [Nat.add_zero] at hst
     have hps:(patch vs 0 (L.map k.val)).toList =L.map k.val:=by
      apply List.ext_getElem?
      intro i
      rw [Array.getElem?_toList,patch_get]
      by_cases hi:i<L.length
      ·rw [if_pos ⟨by omega,by simpa using hi,by omega⟩];simp
      ·rw [if_neg (by simp;omega),List.getElem?_eq_none (by simpa using hi),Array.getElem?_eq_none (by omega)]
     refine done_upd (vs':=patch vs 0 (L.map k.val)) ((hsee.ob _ _ hg).2.2 rfl) hon h1 ⟨hfl,by rw [h0,q1,hLn],b,_,fr,h1,h4,setRow_heap w b vs _ ty' fr h5,by rw [patch_size];exact h6,by omega,by rw [patch_size];omega,fun m hm=>by cases hm;exact⟨hLn,by rw [patch_size];exact q2⟩,fun i x hx=>?_⟩ ?_
     ·rw [←Array.getElem?_toList,hps,List.getElem?_map,hx];rfl
     ·have hsz:(L.map k.val).length =i.size:=by rw [hin,hn];simpa using hLn
      have hsz':L.length=i.size:=by simpa using hsz
      simp [execOp,Instr.storeAt,Instr.sureAddr,h2,storeVar,run_size hi,hv,Value.cells,hsz',hst]
    ·cases hs
   ·cases hs
  ·rename_i id ix st off hx'
   rw [hx'] at hx
   unfold R at hx
   obtain⟨hon,b,h1,h2⟩:=hx
   split at hs
   ·rename_i k n L ty' k' hg hk'
    split at hs
    ·rename_i hck
     simp only [Bool.and_eq_true] at hck
     have hst:=Nat.eq_of_beq_eq_true hck.1
     have hof:=Nat.eq_of_beq_eq_true hck.2.1
     subst hst hof
     split at hs
     ·rename_i z hz
      simp only [Option.some.injEq] at hs
      subst hs
      obtain⟨ti,ht, -, -,hn1,hag⟩:=kindOf_ok hk'
      obtain⟨i,hi,hin, -⟩:=(hc.T t ti ht).info
      obtain⟨⟨hfl,h0,b',vs,fr,h3,h4,h5,h6,h7,h8,h9,h10⟩, -⟩:=hsee.ob _ _ hg
      rw [h1] at h3
      cases h3
      have hv:=un1_val hfl hz hy
      simp only [List.mem_cons,List.not_mem_nil,or_false,forall_eq] at hp
      have hlt:0≤ix∧ix<L.length:=by
       cases n with
       | none=>unfold arrN at hp;rw [hcp] at hp;exact hp
       | some m=>unfold arrN at hp;rw [hcp] at hp;rw [(h9 m rfl).1];exact hp
      have hst:=run_stores' (P:=P) b ix.toNat ty' fr [k.val z] 0 vs w h5 h6 (by simp;omega) (fun v hv=>by simp at hv;subst hv;exact val_one hfl z)
      rw [Nat.add_zero] at hst
      rw [hcp]
      refine done_upd (vs':=patch vs ix.toNat [k.val z]) ((hsee.ob _ _ hg).2.2 rfl) hon h1 ⟨hfl,by rw [h0];simp [std],b,_,fr,h1,h4,setRow_heap w b vs _ ty' fr h5,by rw [patch_size];exact h6,by simpa [std] using h7,by rw [patch_size];simpa [std] using h8,fun m hm=>by rw [patch_size];simpa [std] using h9 m hm,fun i x hx=>?_⟩ ?_
      ·simp only [std,List.getElem?_set] at hx
       rw [patch_get]
       by_cases hii:ix.toNat=i
       ·subst hii
        rw [if_pos rfl] at hx
        split at hx
        ·cases hx;rw [if_pos ⟨by omega,by simp,by omega⟩];simp
        ·cases hx
       ·rw [if_neg hii] at hx
        rw [if_neg (by simp;omega)]
        exact h10 i x hx
      ·have hc1:(k.val z).cells =#[k.val z]:=by
        have:=val_one hfl z
        cases k with
        | i _=>rfl
        | b=>rfl
        | s=>rfl
        | r _=>cases hfl
       simp [execOp,Instr.storeAt,Instr.sureAddr,h2,storeVar,run_size hi,hin,hn1,hv,hc1,hst]
     ·cases hs
    ·cases hs
   ·cases hs
  ·cases hs
 case h_7 t x ix=>
  have hx:=hρ x (by simp [Op.operands])
  have hix:=hρ ix (by simp [Op.operands])
  split at hs
  ·rename_i id ki n hx' hix'
   rw [hx'] at hx
   unfold R at hx
   obtain⟨hon,hv⟩:=hx
   rw [hix',R_i] at hix
   split at hs
   ·rename_i k m L ty' te _ _ _ hg ht
    split at hs
    ·rename_i k' hk'
     simp only [okp,Option.some.injEq] at hs
     subst hs
     rw [hcp] at hp ⊢
     simp only [List.mem_cons,List.not_mem_nil,or_false,forall_eq,std] at hp
     obtain⟨_,hu, -,hd⟩:=(hc.T t _ ht).und
     simp only at hd
     subst hd
     obtain⟨ti,hti, -, -,hn1, -⟩:=kindOf_ok hk'
     obtain⟨i,hi,hin, -⟩:=(hc.T te ti hti).info
     obtain⟨⟨hfl,h0,b,vs,fr,h1,h2,h3,h4,h5,h6,h7,h8⟩, -⟩:=hsee.ob _ _ hg
     refine done_same (u:=.pointer (some ⟨b,n.toNat,none⟩)) ?_ ?_
     ·have hlt:n<(e.len id:Int):=by rw [h0];exact hp.2
      simp [execOp,Instr.indexAt,hix,asIntOf,run_underlying hu,hv,h1,hp.1,hlt,run_size hi,hin,hn1,adr_add]
     ·unfold R;exact⟨hon,b,h1,by simp⟩
    ·cases hs
   ·cases hs
  ·rename_i id ki n hx' hix'
   rw [hx'] at hx
   unfold R at hx
   obtain⟨hon,b,h1,hv⟩:=hx
   rw [hix',R_i] at hix
   split at hs
   ·rename_i k m' L ty' m k' hg hm
    split at hs
    ·rename_i hmm
     have hmm:=Nat.eq_of_beq_eq_true hmm
     subst hmm
     simp only [okp,Option.some.injEq] at hs
     subst hs
     rw [hcp] at hp ⊢
     simp only [List.mem_cons,List.not_mem_nil,or_false,forall_eq,std] at hp
     obtain⟨ti,te,ht,hn,hke, -, -,hu, -⟩:=arrOf_ok hc hm
     obtain⟨tie,hti, -, -,hn1, -⟩:=kindOf_ok hke
     obtain⟨i,hi,hin, -⟩:=(hc.T te tie hti).info
     refine done_same (u:=.pointer (some ⟨b,n.toNat,none⟩)) ?_ ?_
     ·simp [execOp,Instr.indexAt,hix,asIntOf,run_underlying hu,hv,Instr.sureAddr,hp.1,hp.2,run_size hi,hin,hn1,adr_add]
     ·unfold R;exact⟨hon,b,h1,by simp⟩
    ·cases hs
   ·cases hs
  ·cases hs
 case h_8 t x ix=>
  have hx:=hρ x (by simp [Op.operands])
  have hix:=hρ ix (by simp [Op.operands])
  split at hs
  ·rename_i k m' L ki n hx' hix'
   rw [hx'] at hx
   unfold R at hx
   obtain⟨hfl,hL,hv⟩:=hx
   rw [hix',R_i] at hix
   split at hs
   ·rename_i m k' hm
    split at hs
    ·rename_i hmm
     rw [Bool.and_eq_true] at hmm
     have hm1:=Nat.eq_of_beq_eq_true hmm.1
     subst hm1
     simp only [okp,Option.some.injEq] at hs
     subst hs
     rw [hcp] at hp ⊢
     simp only [List.mem_cons,List.not_mem_nil,or_false,forall_eq,std] at hp
     obtain⟨ti,te,ht,hn,hke, -, -,hu, -⟩:=arrOf_ok hc hm
     obtain⟨tie,hti, -, -,hn1,hag⟩:=kindOf_ok hke
     obtain⟨i,hi,hin, -⟩:=(hc.T te tie hti).info
     have hlt:n.toNat<L.length:=by omega
     obtain⟨u,h1,h2⟩:=part_at (w:=w) (e:=e) (hc.T te tie hti) (off:=n.toNat) (l:=L.map k.pv) (vs:=(L.map k.val).toArray) ((pvs_val hfl).2 rfl) (ldC_one hn1 hag (getD_map hlt k.dflt))
     refine done_same (u:=u) (run_value rfl ?_) h2
     simp [Instr.index,hix,asIntOf,run_underlying hu,hv,hp.1,hp.2,run_size hi,hin,hn1,h1]
    ·cases hs
   ·cases hs
  ·cases hs
 case h_9 op t x y yt=>
  have hx:=hρ x (by simp [Op.operands])
  have hy:=hρ y (by simp [Op.operands])
  split at hs
  ·rename_i l m hx' hy'
   rw [hx'] at hx
   rw [hy'] at hy
   have key : ∀r,eqV c 5 t (.agg l) (.agg m)=some r→∃xs ys,a.eval x=.agg xs∧a.eval y=.agg ys∧P.eqGuardType P.depth t=false∧(Op.equalIn 10000 t (.agg xs) (.agg ys)).run P w=.ok r w:=fun r hr=>by
    have h1:=eqV_ok (w:=w) (e:=e) hc 5 10000 t _ _ _ _ r (by omega) hr hx hy
    have hC:c.C t=true:=by
     by_cases hCC:c.C t=true
     ·exact hCC
     ·exfalso
      unfold eqV at hr
      split at hr
      ·split at hr<;>first | (cases hr;done) | (simp [hCC] at hr;done)
      ·cases hr
    unfold R at hx hy
    obtain⟨xs,hxs, -⟩:=hx
    obtain⟨ys,hys, -⟩:=hy
    rw [hxs,hys] at h1
    exact⟨xs,ys,hxs,hys,(hc.C t hC).gd,h1⟩
   split at hs
   ·rename_i r hr
    simp only [ok,Option.some.injEq] at hs
    subst hs
    obtain⟨xs,ys,h1,h2,h3,h4⟩:=key r hr
    refine done_same (u:=.bool r) (run_value rfl ?_) (by rw [R_b])
    rw [h1,h2]
    simp [run_eqGuard_agg w .eql t x y xs ys h3,run_eql_struct,h4]
   ·rename_i r hr
    simp only [ok,Option.some.injEq] at hs
    subst hs
    obtain⟨xs,ys,h1,h2,h3,h4⟩:=key r hr
    refine done_same (u:=.bool (!r)) (run_value rfl ?_) (by rw [R_nb])
    rw [h1,h2]
    simp [run_eqGuard_agg w .neq t x y xs ys h3,run_neq_struct,h4]
   ·cases hs
  ·cases hs
 case h_10 x t=>
  have hx:=hρ x (by simp [Op.operands,Call.operands])
  split at hs
  ·rename_i _ _ _ _ id ht hx'
   obtain⟨d',hu, -,hd⟩:=(hc.T t _ ht).und
   simp only at hd
   subst hd
   split at hs
   ·rename_i k m L ty' hg
    simp only [ok,Option.some.injEq] at hs
    subst hs
    rw [hx'] at hx
    unfold R at hx
    obtain⟨hon,hv⟩:=hx
    obtain⟨⟨hfl,h0, -⟩, -⟩:=hsee.ob _ _ hg
    rw [hcp]
    refine done_same (u:=.int .i64 L.length) (run_len rfl ?_) (by rw [R_i];rfl)
    rw [hv]
    simp [Builtin.len_,run_underlying hu,h0]
    rfl
   ·cases hs
  ·cases hs
 case h_11=>cases hs
end
end Ax
namespace Ax
open Go.RowKit
section
variable {P:Program} {c:Cx} {o:Oper} {ρ:Operand→PV} {h:AH} {nx:Nat} {out:Out} {a:Act} {w:World} {e:Env}
theorem run_next {x:Sem Value} {u:Value} {w':World} (hx:(execOp a.eval o)=(do pure (.value (←x)))) (h:x.run P w=.ok u w'):(execOp a.eval o).run P w=.ok (.value u) w':=by
 rw [hx]
 simp [h]
theorem done_move {pre:List Prop} {id b:Nat} {ob:Ob} {w':World} {v:PV} {u:Value} (hlv:e.lv id) (hon:e.on id) (ha:e.adr id=some ⟨b,0,none⟩) (hO:OR w' e id ob) (hv:R w' e v u) (h1:w'.os=w.os) (h2:w'.tape=w.tape) (h3:w'.output=w.output) (h4:w'.heap.size=w.heap.size)
 (h5 : ∀x,x≠b→w'.heap[x]? =w.heap[x]?) (hr:(execOp a.eval o).run P w=.ok (.value u) w'):Done P o a w e nx ⟨pre,v,[(id,ob)]⟩:=by
 unfold Done Oper.wp
 rw [hr]
 refine⟨u,e,rfl,hv,.refl e,.of fun _ h=>h,?_,fun k hk=>.inl hk,fun k hk=>.inl hk,fun k hk=>.inl hk,fun k _ _ h1 h2=>absurd h1 h2,?_⟩
 ·intro k o' hk
  unfold AH.get at hk
  split at hk
  ·rename_i hkk
   have : id=k:=by simpa using hkk
   subst this
   cases hk
   exact⟨hO,hon,fun _=>hlv⟩
  ·cases hk
 ·refine⟨h1,h2,h3,by rw [h4];exact Nat.le_refl _,fun x hx hM=>h5 x fun h=>hM ⟨id,hlv,by simp [AH.get],_,ha,h.symm⟩⟩
theorem Done.pre {p1 p2:List Prop} {v:PV} {f:AH} (h:Done P o a w e nx ⟨p1,v,f⟩):Done P o a w e nx ⟨p2,v,f⟩:=by
 unfold Done at *
 refine Oper.wp_mono ?_ h
 rintro a' w' ⟨u,e',h1,h2⟩
 exact⟨u,e',h1,⟨h2.val,h2.le,h2.fz,h2.eff,h2.new,h2.nlv,h2.klv,h2.dis,h2.chg⟩⟩
theorem nx_ok {l:List UInt8} {k:Int} (hk:0≤k):nxV l k=if k.toNat<l.length then .tuple #[.bool true,.int .i64 k.toNat,.int .i32 (l.getD k.toNat 0).toNat] else .tuple #[.bool false]:=by
 unfold nxV
 have e1:((k.toNat:Nat):Int)=k:=Int.toNat_of_nonneg hk
 rw [e1]
 by_cases h:k<l.length
 ·rw [if_pos h,if_pos (by omega)]
 ·rw [if_neg h,if_neg (by omega)]
theorem run_meth {x:Operand} {args:Array Operand} {ts:Array TypeId} {t:TypeId} {m:String} {g:FuncId} {fn:Func} (ho:o.op=.call ⟨.value x,args,ts⟩) (hf:a.eval x=.func (.method m) #[.iface t (.agg #[])] #[])
 (hm:(method (P.types.size+Made.depth) t (.agg #[]) m).run P w=.ok (g,.agg #[]) w) (hg:P.funcs[g]? =some fn) (hn:(fn.name=="runtime.NumGoroutine")=false) (hb:fn.body.isNone=false) :
 (execOp a.eval o).run P w=.ok (.enter g (#[.agg #[]]++args.map a.eval)) w:=by
 have hcall:(callFunc g (#[.agg #[]]++args.map a.eval)).run P w=.ok (.enter g (#[.agg #[]]++args.map a.eval)) w:=by
  unfold callFunc
  simp only [program,Sem.run_bind,Sem.run,Result.andThen_ok,hg]
  simp [hn,hb,Sem.run]
 unfold execOp
 simp only [ho,resolve,hf,Deferred.ofValue,Sem.run_bind,Sem.run_pure,Result.andThen_ok,invoke]
 have e1:((#[Value.iface t (.agg #[])]++args.map a.eval:Array Value))[0]? =some (.iface t (.agg #[])):=by rw [Array.getElem?_append_left (by simp)];rfl
 have e2:(#[Value.iface t (.agg #[])]++args.map a.eval:Array Value).extract 1 (#[Value.iface t (.agg #[])]++args.map a.eval:Array Value).size =args.map a.eval:=by
  apply Array.ext'
  simp [List.take_of_length_le]
 simp only [e1,e2,callMethod,program,Sem.run_bind,Sem.run,Result.andThen_ok,hm]
 exact hcall
theorem run_inv {x:Operand} {args:Array Operand} {ts:Array TypeId} {t:TypeId} {m:String} {g:FuncId} {fn:Func} (ho:o.op=.call ⟨.invoke x m,args,ts⟩) (hf:a.eval x=.iface t (.agg #[]))
 (hm:(method (P.types.size+Made.depth) t (.agg #[]) m).run P w=.ok (g,.agg #[]) w) (hg:P.funcs[g]? =some fn) (hn:(fn.name=="runtime.NumGoroutine")=false) (hb:fn.body.isNone=false) :
 (execOp a.eval o).run P w=.ok (.enter g (#[.agg #[]]++args.map a.eval)) w:=by
 have hcall:(callFunc g (#[.agg #[]]++args.map a.eval)).run P w=.ok (.enter g (#[.agg #[]]++args.map a.eval)) w:=by
  unfold callFunc
  simp only [program,Sem.run_bind,Sem.run,Result.andThen_ok,hg]
  simp [hn,hb,Sem.run]
 unfold execOp
 simp only [ho,resolve,hf,Sem.run_bind,Sem.run_pure,Result.andThen_ok,invoke]
 have e1:((#[Value.iface t (.agg #[])]++args.map a.eval:Array Value))[0]? =some (.iface t (.agg #[])):=by rw [Array.getElem?_append_left (by simp)];rfl
 have e2:(#[Value.iface t (.agg #[])]++args.map a.eval:Array Value).extract 1 (#[Value.iface t (.agg #[])]++args.map a.eval:Array Value).size =args.map a.eval:=by
  apply Array.ext'
  simp [List.take_of_length_le]
 simp only [e1,e2,callMethod,program,Sem.run_bind,Sem.run,Result.andThen_ok,hm]
 exact hcall
theorem aopY_ok (hc:CxOk P c) (hs:aopY c o.op ρ h nx=some out) (hp : ∀p∈out.pre,p) (hρ : ∀x∈o.op.operands,R w e (ρ x) (a.eval x)) (hsee:Sees w e h)
 (hfresh : ∀k,nx≤k→(out.eff.get k).isSome =true→¬e.on k):Done P o a w e nx out:=by
 obtain⟨dst,op,ty,pos,aft,gd⟩:=o
 simp only at hs hρ
 have hcp:=hc.p
 unfold aopY at hs
 split at hs
 case h_1 t x=>
  have hx:=hρ x (by simp [Op.operands])
  split at hs
  ·rename_i _ _ _ l ht hl
   obtain⟨_,hu, -,hd⟩:=(hc.T t _ ht).und
   simp only at hd
   subst hd
   simp only [Option.some.injEq] at hs
   subst hs
   rw [hl,R_s] at hx
   have hasc : ∀c∈l,c.toNat<128:=by have:=hp _ (List.mem_singleton.2 rfl);rw [hcp] at this;exact this
   refine done_mk (u:=.pointer (some ⟨w.heap.size,0,none⟩)) (w':=w.iter ⟨l.toArray⟩ 0) (cp:=0) (ln:=0) rfl (hfresh nx (Nat.le_refl _) (by simp [AH.get])) hsee.fz.lt ((Below.refl _ _).alloc (Nat.le_refl _) _) (by show _<(w.heap.push _).size;rw [Array.size_push];omega) ?_ fun E hEa _ _ hEf hEo=>⟨⟨hasc,Int.le_refl 0,_,hEa,hEf,?_⟩,?_⟩
   ·exact run_next rfl (by rw [hx];exact run_range_string w t _ hu)
   ·rw [World.iter_heap];simp
   ·unfold R;exact⟨hEo,_,hEa,rfl⟩
  ·cases hs
 case h_2 x=>
  have hx:=hρ x (by simp [Op.operands])
  split at hs
  ·rename_i id hid
   split at hs
   ·rename_i l k hg
    simp only [Option.some.injEq] at hs
    subst hs
    rw [hid] at hx
    unfold R at hx
    obtain⟨hon,b,hb,hv⟩:=hx
    obtain⟨⟨h1,h2,b',h3,h4,h5⟩, -,h7⟩:=hsee.ob _ _ hg
    rw [hb] at h3
    cases h3
    rw [hcp]
    have hsz:(ByteArray.mk l.toArray).size =l.length:=by simp [ByteArray.size]
    by_cases hk:k.toNat<l.length
    ·have hmin:min k.toNat l.length=k.toNat:=Nat.min_eq_left (by omega)
     rw [hmin] at h5
     have hget:(ByteArray.mk l.toArray)[k.toNat]'(by rw [hsz];exact hk)=l.getD k.toNat 0:=by
      rw [List.getD_eq_getElem?_getD,List.getElem?_eq_getElem hk];rfl
     have hrun:=Lib.run_next_ascii_at (P:=P) w b ⟨l.toArray⟩ k.toNat ty h5 (by rw [hsz];exact hk) (by rw [hget,List.getD_eq_getElem?_getD,List.getElem?_eq_getElem hk];exact h1 _ (List.getElem_mem hk))
     rw [hget] at hrun
     refine done_move (w':=w.iterAt b ⟨l.toArray⟩ (k.toNat+1)) (u:=nxV l k) (h7 rfl) hon hb ⟨h1,by show 0≤k+1;omega,b,hb,h4,?_⟩ ?_ rfl rfl rfl (Lib.iterAt_size _ _ _ _) (fun x hx=>Lib.iterAt_other _ _ _ _ _ hx) (run_next rfl (by rw [hv,nx_ok h2,if_pos hk];exact hrun))
     ·rw [Lib.iterAt_heap w b _ _ _ h5]
      congr 2
      show k.toNat+1=min (k+1).toNat l.length
      omega
     ·unfold R;exact⟨h2,rfl⟩
    ·have hmin:min k.toNat l.length=l.length:=Nat.min_eq_right (by omega)
     rw [hmin] at h5
     have hrun:=Lib.run_next_end_at (P:=P) w b ⟨l.toArray⟩ l.length ty h5 (by rw [hsz];omega)
     refine done_move (w':=w) (u:=nxV l k) (h7 rfl) hon hb ⟨h1,by show 0≤k+1;omega,b,hb,h4,?_⟩ ?_ rfl rfl rfl rfl (fun x _=>rfl) (run_next rfl (by rw [hv,nx_ok h2,if_neg hk];exact hrun))
     ·rw [h5]
      congr 2
      show l.length=min (k+1).toNat l.length
      omega
     ·unfold R;exact⟨h2,rfl⟩
   ·cases hs
  ·cases hs
 case h_3 t ix=>
  have hx:=hρ t (by simp [Op.operands])
  split at hs
  ·rename_i l k hl
   rw [hl] at hx
   unfold R at hx
   obtain⟨h2,hv⟩:=hx
   rw [hcp] at hs
   split at hs
   ·cases hs
    refine done_same (u:=.bool (decide (k<l.length))) (run_value rfl ?_) (by rw [R_b];rfl)
    rw [hv]
    unfold nxV
    by_cases hk:k<l.length
    ·rw [if_pos hk,decide_eq_true hk];rfl
    ·rw [if_neg hk,decide_eq_false hk];rfl
   ·cases hs
    have hk:0≤k∧k<l.length:=hp _ (List.mem_singleton.2 rfl)
    refine done_same (u:=.int .i64 k) (run_value rfl ?_) (by rw [R_i])
    rw [hv]
    unfold nxV
    rw [if_pos hk.2];rfl
   ·cases hs
    have hk:0≤k∧k<l.length:=hp _ (List.mem_singleton.2 rfl)
    refine done_same (u:=.int .i32 (l.getD k.toNat 0).toNat) (run_value rfl ?_) (by rw [R_i];rfl)
    rw [hv]
    unfold nxV
    rw [if_pos hk.2];rfl
   ·cases hs
  ·cases hs
 case h_4 t x=>
  have hx:=hρ x (by simp [Op.operands])
  split at hs
  ·rename_i hl
   rw [hl] at hx
   unfold R at hx
   obtain⟨vs,hv,h2⟩:=hx
   unfold Rs at h2
   have h3:vs=#[]:=by simpa using h2
   subst h3
   split at hs
   ·rename_i hst
    cases hs
    refine done_same (u:=.iface t (.agg #[])) (run_value rfl ?_) (by unfold R;rfl)
    rw [hv]
    refine run_makeInterface w t _ ?_
    unfold isSt at hst
    split at hst
    ·rename_i ti hti
     obtain⟨d,hu, -,hd⟩:=(hc.T t _ hti).und
     split at hst
     ·rename_i fs hfs
      rw [hfs] at hd
      obtain⟨F,rfl, -⟩:=hd
      unfold Program.concrete
      rw [hu]
     ·cases hst
    ·cases hst
   ·cases hs
  ·cases hs
 case h_5 f cs=>
  cases hs
  have hcs:Rs w e (cs.toList.map ρ) (cs.map a.eval).toList :=by
   refine Rs_of (by simp) fun i p u hp' hu=>?_
   simp only [List.getElem?_map,Option.map_eq_some_iff,Array.toList_map] at hp' hu
   obtain⟨y,hy,rfl⟩:=hp'
   obtain⟨y',hy',rfl⟩:=hu
   rw [hy] at hy'
   cases hy'
   exact hρ y (by
    have : y∈cs:=by rw [←Array.mem_toList_iff];exact List.mem_of_getElem? hy
    simp [Op.operands,this])
  exact done_same (u:=.func (.func f) #[] (cs.map a.eval)) (run_value rfl (by simp [Instr.makeFunc])) (by unfold R;exact⟨_,rfl,hcs⟩)
 case h_6 m x=>
  have hx:=hρ x (by simp [Op.operands])
  split at hs
  ·rename_i t hl
   cases hs
   rw [hl] at hx
   unfold R at hx
   exact done_same (u:=.func (.method m) #[.iface t (.agg #[])] #[]) (run_value rfl (by simp [Instr.makeFunc,hx])) (by unfold R;rfl)
  ·cases hs
 case h_7 x=>
  have hx:=hρ x (by simp [Op.operands])
  split at hs
  ·rename_i m t hl
   split at hs
   ·rename_i g s hI
    cases hs
    rw [hl] at hx
    unfold R at hx
    have hm:m=s:=hp _ (List.mem_singleton.2 rfl)
    obtain⟨n1, -⟩:=hc.I t _ g s hI w
    refine done_same (u:=.func (.method m) #[.iface t (.agg #[])] #[]) ?_ (by unfold R;rfl)
    unfold execOp
    simp only [hx]
    have e1:(#[Value.iface t (.agg #[])]:Array Value)[0]? =some (.iface t (.agg #[])):=rfl
    simp only [e1,program,Sem.run_bind,Sem.run,Result.andThen_ok,hm,n1]
    simp [Sem.run]
   ·cases hs
  ·cases hs
 case h_8 x args ts=>
  have hx:=hρ x (by simp [Op.operands,Call.operands])
  split at hs
  ·rename_i m t hl
   split at hs
   ·rename_i g s hI
    split at hs
    ·rename_i S hS
     split at hs
     ·cases hs
     ·split at hs
      ·rename_i out' hout
       simp only [Option.some.injEq] at hs
       subst hs
       rw [hl] at hx
       unfold R at hx
       have hm:m=s:=hp _ List.mem_cons_self
       obtain⟨-,n2⟩:=hc.I t _ g s hI w
       have hF:=hc.F g S hS
       obtain⟨fn,f1,f2,f3⟩:=hF.fn
       have hargs:Rs w e (.agg []::args.toList.map ρ) (#[Value.agg #[]]++args.map a.eval).toList :=by
        rw [Array.toList_append]
        refine Rs_app (l:=[.agg []]) ?_ ?_
        ·unfold Rs;exact⟨.agg #[],[],rfl,by unfold R;exact⟨#[],rfl,by unfold Rs;rfl⟩,by unfold Rs;rfl⟩
        ·refine Rs_of (by simp) fun i p u hp' hu=>?_
         simp only [List.getElem?_map,Option.map_eq_some_iff,Array.toList_map] at hp' hu
         obtain⟨y,hy,rfl⟩:=hp'
         obtain⟨y',hy',rfl⟩:=hu
         rw [hy] at hy'
         cases hy'
         exact hρ y (by
          have : y∈args:=by rw [←Array.mem_toList_iff];exact List.mem_of_getElem? hy
          simp [Op.operands,Call.operands,this])
       have hd:=done_call (e:=e) (e0:={ e with on:=fun _=>False,lv:=fun _=>False }) (ρ:=[]) (out:=out') (nx:=nx) (run_meth (o:=⟨dst,.call ⟨.value x,args,ts⟩,ty,pos,aft,gd⟩) (ts:=ts) rfl hx (by rw [hm];exact n2) f1 f2 f3) ⟨fun k hk=>hk.elim,fun k hk=>hk.elim,fun k hk=>absurd hk (Nat.not_lt_zero k),fun k _ hk=>absurd hk (Nat.not_lt_zero k),fun k hk=>absurd hk (Nat.not_lt_zero k),fun b hb=>hb,hsee.fz⟩
        (hF.run _ out' hout (fun p hp'=>hp p (List.mem_cons_of_mem _ hp')) w e _ hsee.fz (nrm_Rs _ _ hargs)) (.inl fun b hb=>hb) hfresh
       exact hd.pre
      ·cases hs
    ·cases hs
   ·cases hs
  ·cases hs
 case h_9 x m args ts=>
  have hx:=hρ x (by simp [Op.operands,Call.operands])
  split at hs
  ·rename_i t hl
   split at hs
   ·rename_i g s hI
    split at hs
    ·rename_i S hS
     split at hs
     ·cases hs
     ·split at hs
      ·rename_i out' hout
       simp only [Option.some.injEq] at hs
       subst hs
       rw [hl] at hx
       unfold R at hx
       have hm:m=s:=hp _ List.mem_cons_self
       obtain⟨-,n2⟩:=hc.I t _ g s hI w
       have hF:=hc.F g S hS
       obtain⟨fn,f1,f2,f3⟩:=hF.fn
       have hargs:Rs w e (.agg []::args.toList.map ρ) (#[Value.agg #[]]++args.map a.eval).toList :=by
        rw [Array.toList_append]
        refine Rs_app (l:=[.agg []]) ?_ ?_
        ·unfold Rs;exact⟨.agg #[],[],rfl,by unfold R;exact⟨#[],rfl,by unfold Rs;rfl⟩,by unfold Rs;rfl⟩
        ·refine Rs_of (by simp) fun i p u hp' hu=>?_
         simp only [List.getElem?_map,Option.map_eq_some_iff,Array.toList_map] at hp' hu
         obtain⟨y,hy,rfl⟩:=hp'
         obtain⟨y',hy',rfl⟩:=hu
         rw [hy] at hy'
         cases hy'
         exact hρ y (by
          have : y∈args:=by rw [←Array.mem_toList_iff];exact List.mem_of_getElem? hy
          simp [Op.operands,Call.operands,this])
       have hd:=done_call (e:=e) (e0:={ e with on:=fun _=>False,lv:=fun _=>False }) (ρ:=[]) (out:=out') (nx:=nx) (run_inv (o:=⟨dst,.call ⟨.invoke x m,args,ts⟩,ty,pos,aft,gd⟩) (ts:=ts) rfl hx (by rw [hm];exact n2) f1 f2 f3) ⟨fun k hk=>hk.elim,fun k hk=>hk.elim,fun k hk=>absurd hk (Nat.not_lt_zero k),fun k _ hk=>absurd hk (Nat.not_lt_zero k),fun k hk=>absurd hk (Nat.not_lt_zero k),fun b hb=>hb,hsee.fz⟩
        (hF.run _ out' hout (fun p hp'=>hp p (List.mem_cons_of_mem _ hp')) w e _ hsee.fz (nrm_Rs _ _ hargs)) (.inl fun b hb=>hb) hfresh
       exact hd.pre
      ·cases hs
    ·cases hs
   ·cases hs
  ·cases hs
 case h_10 x y t t'=>
  have hx:=hρ x (by simp [Op.operands,Call.operands])
  have hy:=hρ y (by simp [Op.operands,Call.operands])
  split at hs
  ·rename_i te _ _ _ _ _ _ l ht ht' hl
   obtain⟨d',hu, -,hd⟩:=(hc.T t _ ht).und
   simp only at hd
   subst hd
   obtain⟨d',hu', -,hd⟩:=(hc.T t' _ ht').und
   simp only at hd
   subst hd
   rw [hl,R_s] at hy
   split at hs
   ·rename_i ti hti hx'
    split at hs
    ·rename_i hok
     simp only [Option.some.injEq] at hs
     subst hs
     rw [hcp] at hp ⊢
     simp only [List.mem_cons,List.not_mem_nil,or_false,forall_eq,std] at hp
     rw [hx'] at hx
     unfold R at hx
     have hrun:=run_appS (P:=P) (w:=w) (fz:=e.fz) t t' ty te hu hu' (hc.T te ti hti) hok (v:=a.eval x) (n:=0) l (by omega)
     rw [←hy] at hrun
     exact done_append' (sh:=[.i .u8]) (od:=none) (L:=[]) (M:=toBl l) rfl (hfresh nx (Nat.le_refl _) (by simp [AH.get])) hsee.fz.lt hrun (.inl ⟨rfl,rfl,hx⟩)
    ·cases hs
   ·rename_i ti id hti hx'
    split at hs
    ·rename_i sh L ty' hg
     split at hs
     ·rename_i M hcast
      split at hs
      ·rename_i hok
       simp only [Option.some.injEq] at hs
       subst hs
       rw [Bool.and_eq_true] at hok
       have hty:ty'=te:=Nat.eq_of_beq_eq_true hok.2
       subst hty
       rw [hcp] at hp ⊢
       simp only [List.mem_cons,List.not_mem_nil,or_false,forall_eq,std] at hp
       rw [hx'] at hx
       unfold R at hx
       obtain⟨h1,h2,h3⟩:=hsee.ob _ _ hg
       obtain rfl:sh=[.i .u8]:=by
        unfold castL at hcast
        split at hcast
        ·rename_i hh _;exact hh
        ·cases hcast
       have hM:M=L:=by
        unfold castL at hcast
        split at hcast
        ·cases hcast;rfl
        ·cases hcast
       subst hM
       have hrun:=run_appS (P:=P) (w:=w) (fz:=e.fz) t t' ty ty' hu hu' (hc.T _ ti hti) hok.1 (v:=a.eval x) (n:=M.length) l (by omega)
       rw [←hy] at hrun
       exact done_append' (od:=some id) rfl (hfresh nx (Nat.le_refl _) (by simp [AH.get])) hsee.fz.lt hrun (.inr ⟨id,rfl,h3 rfl,h2,h1,hx.2⟩)
      ·cases hs
     ·cases hs
    ·cases hs
   ·cases hs
  ·cases hs
 case h_11 x y ts=>
  have hx:=hρ x (by simp [Op.operands,Call.operands])
  have hy:=hρ y (by simp [Op.operands,Call.operands])
  split at hs
  ·rename_i k u k' v hu hv
   cases hs
   rw [hu,R_i] at hx
   rw [hv,R_i] at hy
   refine done_same (u:=.int k (std.min u v)) ?_ (by rw [R_i,hcp])
   have hr:=run_min_int2 (P:=P) w ts ty k k' u v
   have e1:(if v<u then v else u)=std.min u v:=by
    show _=if u≤v then u else v
    by_cases h:v<u
    ·rw [if_pos h,if_neg (by omega)]
    ·rw [if_neg h,if_pos (by omega)]
   rw [e1] at hr
   unfold execOp
   simp only [resolve,invoke,builtin,Sem.run_bind,Sem.run_pure,Result.andThen_ok,List.map_toArray,List.map_cons,List.map_nil,hx,hy,hr]
  ·cases hs
 case h_12 t n m=>
  have hn':=hρ n (by simp [Op.operands])
  have hm':=hρ m (by simp [Op.operands])
  split at hs
  ·rename_i te _ _ sh ht
   obtain⟨d',hu, -,hd⟩:=(hc.T t _ ht).und
   simp only at hd
   subst hd
   split at hs
   ·rename_i ti hti
    split at hs
    ·rename_i hok
     have hty:=hc.T te ti hti
     unfold okEl at hok
     simp only [Bool.and_eq_true,Nat.blt_eq,Nat.ble_eq] at hok
     obtain⟨k1,k2,k3,k4⟩:=hok
     have k1:ti.n=sh.length:=Nat.eq_of_beq_eq_true k1
     have k4:ti.z.length=ti.n:=Nat.eq_of_beq_eq_true k4
     obtain⟨i,hi,hin,z,hzz,hzo⟩:=hty.info
     have hpos:0<sh.length:=by omega
     have hzs:z.cells.size=sh.length:=by
      have:=Rs_length (zOk_Rs w e _ _ hzo)
      simp only [Array.length_toList] at this
      omega
     have hsz:i.size=sh.length:=by omega
     have hby:=hty.byt i hi (by simpa using k3)
     have hB : ∀c:Nat,c≤274877906944→(i.bytes:Int)*c≤281474976710656:=fun c hc=>by
      have : i.bytes*c≤512*274877906944:=Nat.mul_le_mul hby hc
      rw [←Int.natCast_mul]
      omega
     have hml:274877906944≤maxLen:=by unfold maxLen;omega
     split at hs
     ·rename_i y x x' k a' k' b' hy ha hb
      split at hs
      ·rename_i hxx
       have hxx:x=x':=Nat.eq_of_beq_eq_true hxx
       subst hxx
       cases hs
       rw [hcp] at hp
       simp only [List.mem_cons,List.not_mem_nil,or_false,forall_eq_or_imp,forall_eq,std] at hp
       obtain⟨p1,p2⟩:=hp
       rw [ha] at hb
       cases hb
       rw [ha,R_i] at hn'
       obtain⟨N,rfl⟩:=Int.eq_ofNat_of_zero_le p1
       have hr:=run_make (P:=P) w t te i z hu hi hzz k k N N (by omega) (Int.le_refl _) (hB N (by omega)) (by omega)
       simp only [Int.toNat_natCast] at hr
       rw [hcp]
       show Done P _ a w e nx ⟨_,.osl nx,[(nx,.own sh (List.replicate N y) te)]⟩
       have hrow:(execOp a.eval ⟨dst,.makeSlice t (.tmp x) (.tmp x),ty,pos,aft,gd⟩).run P w=.ok (.value (.slice (some ⟨w.heap.size,0,none⟩) (List.replicate N y).length N)) (w.alloc (.cells (madeCells z.cells (N*i.size)) te)):=by
        have e1:execOp a.eval ⟨dst,.makeSlice t (.tmp x) (.tmp x),ty,pos,aft,gd⟩=(do pure (.value (←Instr.makeSlice t (a.eval (.tmp x)) (a.eval (.tmp x))))):=rfl
        rw [e1,hn',List.length_replicate]
        simp [hr]
       refine done_row (cap:=N) (hfresh nx (Nat.le_refl _) (by simp [AH.get])) hsee.fz.lt (by rw [size_madeCells,hsz]) ⟨by simp,by omega⟩ (fun j u hj=>?_) hrow
       rw [List.getElem?_replicate] at hj
       split at hj
       ·rename_i hjN
        cases hj
        refine unE_RE (e:=e) (fun _ h=>h) hy (Rs_mono (same_alloc hsee.fz.lt _) (.refl e) _ _ (zOk_Rs w e _ _ hzo)) fun q v hq=>?_
        have hql:q<sh.length:=by
         have:=(List.getElem?_eq_some_iff.1 hq).1
         simp only [Array.length_toList] at this
         omega
        have hlt:j*sh.length+q<N*i.size:=by
         rw [hsz]
         calc j*sh.length+q<(j+1)*sh.length:=by rw [Nat.succ_mul];omega
          _≤N*sh.length:=Nat.mul_le_mul_right _ hjN
        have e2:(j*sh.length+q)%z.cells.size=q:=by rw [hzs,Nat.add_comm,Nat.mul_comm,Nat.add_mul_mod_self_left,Nat.mod_eq_of_lt hql]
        rw [cell_of_row _ w.heap.size _ _ te _ (heap_alloc_new w _)]
        unfold madeCells
        rw [Array.getElem?_map,Array.getElem?_range,if_pos hlt,Option.map_some,e2]
        rw [getElem!_def]
        simp only [Array.getElem?_toList] at hq
        rw [hq]
       ·cases hj
      ·cases hs
     ·rename_i y k l k' b' hy hb
      split at hs
      ·rename_i hl0
       have hl0:l=0:=by simpa using hl0
       subst hl0
       cases hs
       rw [hcp] at hp
       simp only [List.mem_cons,List.not_mem_nil,or_false,forall_eq_or_imp,forall_eq,std] at hp
       obtain⟨p1,p2⟩:=hp
       rw [hb,R_i] at hm'
       obtain⟨N,rfl⟩:=Int.eq_ofNat_of_zero_le p1
       have hr:=run_make (P:=P) w t te i z hu hi hzz k k' 0 N (Int.le_refl _) (by omega) (hB N (by omega)) (by omega)
       simp only [Int.toNat_natCast,Int.toNat_zero] at hr
       have hrow : ∀m,a.eval m=.int k' N→(execOp a.eval ⟨dst,.makeSlice t (.const (.int k 0)) m,ty,pos,aft,gd⟩).run P w=.ok (.value (.slice (some ⟨w.heap.size,0,none⟩) ([]:List (El sh)).length N)) (w.alloc (.cells (madeCells z.cells (N*i.size)) te)):=fun m hm'=>by
        have e1:execOp a.eval ⟨dst,.makeSlice t (.const (.int k 0)) m,ty,pos,aft,gd⟩=(do pure (.value (←Instr.makeSlice t (.int k 0) (a.eval m)))):=rfl
        rw [e1,hm']
        simp [hr]
       exact done_row (cap:=N) (hfresh nx (Nat.le_refl _) (by simp [AH.get])) hsee.fz.lt (cs:=madeCells z.cells (N*i.size)) (by rw [size_madeCells,hsz]) ⟨by simp,by omega⟩ (fun j u hj=>by simp at hj) (hrow _ hm')
      ·cases hs
     ·cases hs
    ·cases hs
   ·cases hs
  ·cases hs
 case h_13=>cases hs
end
end Ax
end Go.Proofs.YtjjonmhpgkahoaaGreatDoor
