/-
  The library's functions as the plain walker sees them; Results told in other words: nil as an empty row; two preconditions joined.
  Conditions: the library's own variables are as the program lays them; none.
-/
import Derived.Test.YtghmphmbpdiflaaGreatDoorE18
import Derived.Test.YtghmphmbpdiflaaGreatDoorE19
import Derived.Test.YtghmphmbpdiflaaGreatDoorE17
set_option linter.unusedSimpArgs false
set_option linter.unusedVariables false
namespace Go.Proofs.YtghmphmbpdiflaaGreatDoor
namespace Ax
open Go.RowKit
set_option maxRecDepth 100000
section
variable {P:Program} {f:FuncId} {fn:Func} {α:Type}
theorem FOk.of_calls {A:Args α} {pre:α→Prop} {v:α→PV} (hf:P.funcs[f]? =some fn) (hn:(fn.name=="runtime.NumGoroutine")=false) (hb:fn.body.isNone=false)
 (h : ∀a,pre a→∀(w:World) (e:Env) (vals:Array Value),FzW w e.fz→Rs w e (A.enc a) vals.toList→Calls P f vals w fun en w'=>∃u,en=.returned u∧(∀w e,R w e (v a) u)∧Below w.heap.size w w'):FOk P f (fsp A pre v):=by
 refine⟨⟨fn,hf,hn,hb⟩,fun args out hs hp w e vals hz hl=>?_⟩
 unfold fsp at hs
 split at hs
 ·rename_i a ha
  cases hs
  rw [A.ok _ _ ha] at hl
  refine (h a (hp _ (by simp)) w e vals hz hl).mono ?_
  rintro en w' ⟨u,rfl,hu,hb⟩
  exact⟨u,{ e with on:=fun _=>False,lv:=fun _=>False },rfl,hu _ _,.refl _,.of fun _ h=>h,fun k o hk=>by simp [AH.get] at hk,fun k hk=>.inl hk,fun k hk=>.inl hk,fun k hk=>.inl hk,fun k _ _ h1 h2=>absurd h1 h2,.of_below hb⟩
 ·cases hs
theorem FOk.of_row {A:Args α} {pre:α→Prop} {k:AtTy} {L:α→List k.Ty} {te:TypeId} (hk:k.flat=true) (hf:P.funcs[f]? =some fn) (hn:(fn.name=="runtime.NumGoroutine")=false) (hb:fn.body.isNone=false)
 (h : ∀a,pre a→∀(w:World) (e:Env) (vals:Array Value),FzW w e.fz→Rs w e (A.enc a) vals.toList→Calls P f vals w fun en w'=>∃u,en=.returned u∧w'.ownsRow w.heap.size te 1 u (L a).length ((L a).map k.val)∧Below w.heap.size w w') :
 FOk P f (fsp A pre (fun _=>.osl 0) fun a=>[(0,.own [k] (L a) te)]):=by
 refine⟨⟨fn,hf,hn,hb⟩,fun args out hs hp w e vals hz hl=>?_⟩
 unfold fsp at hs
 split at hs
 ·rename_i a ha
  cases hs
  rw [A.ok _ _ ha] at hl
  refine (h a (hp _ (by simp)) w e vals hz hl).mono ?_
  rintro en w' ⟨u,rfl,hu,hb⟩
  obtain⟨X,C,hu2,hX⟩ : ∃X C,u=.slice X (L a).length C∧((X=none∧L a=[]∧C=0)∨∃g cur,X=some ⟨g,0,none⟩∧w.heap.size≤g∧w'.heap[g]? =some (.cells cur te (0,0))∧cur.size=C∧((L a).length ≤C∧C≤maxLen)∧cur.toList.take (L a).length =(L a).map k.val):=by
   rcases hu.2 with ⟨rfl,h0⟩ | ⟨g,cap,cur,rfl,h1,h2,h3,h4,h5,h6⟩
   ·have : L a=[]:=List.eq_nil_of_length_eq_zero h0
    exact⟨none,0,by rw [this];rfl,.inl ⟨rfl,this,rfl⟩⟩
   ·exact⟨_,_,rfl,.inr ⟨g,cur,rfl,h1,h2,by simpa using h5,⟨h3,h4⟩,by simpa using h6⟩⟩
  have hget : ∀j o',AH.get [(0,Ob.own [k] (L a) te)] j=some o'→j=0∧o'=.own [k] (L a) te:=fun j o' hj=>by
   unfold AH.get at hj
   split at hj
   ·rename_i hkk;exact⟨(by simpa using hkk:0=j).symm,by cases hj;rfl⟩
   ·cases hj
  have hzl : ∀b,e.fz b→b<w.heap.size:=hz.lt
  refine⟨u,⟨fun _=>X,fun _=>C,fun _=>(L a).length,e.fz,fun j=>j=0,fun j=>j=0⟩,rfl,?_,⟨fun j h=>h.elim,fun j h=>h.elim,fun j h=>h.elim,fun j h=>h.elim,fun b h=>h⟩,.of fun _ h=>h,?_,fun j hj=>.inr ⟨Nat.zero_le _,by cases (show j=0 from hj);rfl⟩,?_,fun j h=>h.elim,fun i j b hi _ hj _ _ _=>(show i=0 from hi).trans (show j=0 from hj).symm,.of_below hb⟩
  ·unfold R;exact⟨rfl,hu2⟩
  ·intro j o hj
   obtain⟨rfl,rfl⟩:=hget j o hj
   refine⟨⟨rfl,?_⟩,rfl,fun _=>rfl⟩
   rcases hX with ⟨h1,h2,h3⟩ | ⟨g,cur,h1,h2,h3,h4,h5,h6⟩
   ·exact .inl ⟨h1,h2,h3⟩
   ·refine .inr ⟨g,cur,h1,fun hf=>absurd (hzl _ hf) (Nat.not_lt.2 h2),h3,by simpa using h4,h5,fun i x hx=>?_⟩
    have hil:=(List.getElem?_eq_some_iff.1 hx).1
    have hc:w'.cell? ⟨g,i,none⟩=some (k.val x):=by
     rw [cell_of_row _ g _ cur te _ h3]
     have:=congrArg (fun l=>l[i]?) h6
     simp only [List.getElem?_take,if_pos hil,List.getElem?_map,hx,Option.map_some] at this
     simpa using this
    unfold RE REs RE2
    refine⟨k.val x,by simpa using hc,?_⟩
    cases k with
    | r _=>cases hk
    | _=>unfold RA AtTy.val;rfl
  ·intro j hj
   cases (show j=0 from hj)
   refine .inr ⟨fun h=>h.elim,rfl,fun b ⟨x,h1,h2⟩=>?_⟩
   have h1:X=some x:=h1
   rcases hX with ⟨h3, -⟩ | ⟨g,cur,h3,h4,h5, -⟩
   ·rw [h3] at h1;cases h1
   ·rw [h3] at h1
    cases h1
    subst h2
    exact⟨row_lt h5,.inl h4⟩
 ·cases hs
theorem FOk.frz {A:Args α} {pre:α→Prop} {v v':α→PV} {eff:α→AH} (h:FOk P f (fsp A pre v eff)) (hd : ∀a,deep (eff a) 12 (v a)=v' a∧(v' a).idIn []=true):FOk P f (fsp A pre v'):=by
 refine⟨h.fn,fun args out hs hp w e vals hz hl=>?_⟩
 unfold fsp at hs
 split at hs
 ·rename_i a ha
  cases hs
  refine (h.run args ⟨[pre a],v a,eff a⟩ (by unfold fsp;rw [ha]) hp w e vals hz hl).mono ?_
  rintro en w' ⟨u,e',rfl,hP⟩
  have hfz':FzW w' e'.fz:=⟨fun b hb=>(hP.fz.fz b hb).elim (fun h=>Nat.lt_of_lt_of_le (hz.lt b h) hP.chg.size) (·.2),(hz.gl.chg hP.chg (fun b hb=>⟨hz.lt b hb,fun ⟨k,hk,_⟩=>hk.elim⟩)).mono hP.le.fz⟩
  have hsee:Sees w' e' (eff a):=⟨fun id o ho=>hP.eff id o ho,hfz',fun k k' b hk hk' hb hb'=>hP.dis k k' b hk (fun h=>h) hk' (fun h=>h) hb hb'⟩
  have hF:Frz w' e' (eff a) { e' with fz:=fun b=>e'.fz b∨w.heap.size≤b∧b<w'.heap.size }:=by
   refine⟨⟨fun _ h=>h,fun _ _=>rfl,fun _ _=>rfl,fun _ _=>rfl,fun b hb=>.inl hb⟩,fun id o b ho hg hb=>.inr ?_⟩
   rcases hP.nlv id ((hP.eff id o ho).2.2 hg) with h1 | ⟨-, -,h1⟩
   ·exact h1.elim
   ·exact⟨(h1 b hb).2.resolve_right fun ⟨j,hj,_⟩=>hj.elim,(h1 b hb).1⟩
  have hR:=deep_R hsee hF 12 (v a) u hP.val
  rw [(hd a).1] at hR
  have hrn:Rn id [] { e' with fz:=fun b=>e'.fz b∨w.heap.size≤b∧b<w'.heap.size } ⟨e'.adr,e'.cap,e'.len,fun b=>e'.fz b∨w.heap.size≤b∧b<w'.heap.size,fun _=>False,fun _=>False⟩:=⟨fun k hk=>absurd hk (by simp),fun _=>rfl,fun _=>rfl,fun _=>rfl,rfl⟩
  exact⟨u,_,rfl,R_rn hrn (v' a) u (hd a).2 (by rw [rn_id];exact hR),⟨fun k hk=>hk.elim,fun k hk=>hk.elim,fun k hk=>hk.elim,fun k hk=>hk.elim,fun b hb=>.inl (hP.le.fz b hb)⟩,
   ⟨fun b hb=>hb.elim (hP.fz.fz b) .inr,fun k b hk=>hk.elim⟩,fun k o hk=>by simp [AH.get] at hk,fun k hk=>hk.elim,fun k hk=>hk.elim,fun k hk=>hk.elim,fun k _ _ hk=>hk.elim,⟨hP.chg.os,hP.chg.tape,hP.chg.output,hP.chg.size,fun b hb _=>hP.chg.block b hb fun ⟨k,hk,_⟩=>hk.elim⟩⟩
 ·cases hs
def FSpec.or (S T:FSpec):FSpec:=fun l=>match S l with | some o=>some o | none=>T l
theorem FOk.or {S T:FSpec} (hS:FOk P f S) (hT:FOk P f T):FOk P f (S.or T):=⟨hS.fn,fun l out h hp=>by
 unfold FSpec.or at h
 split at h
 ·rename_i hs;cases h;exact hS.run l _ hs hp
 ·exact hT.run l out h hp⟩
end
theorem ba_list (l:List UInt8):(ByteArray.mk l.toArray).data.toList =l:=rfl
theorem ba_size (l:List UInt8):(ByteArray.mk l.toArray).size =l.length:=by simp [ByteArray.size]
theorem Rs1 {w:World} {e:Env} {a:PV} {vs:List Value} (h:Rs w e [a] vs) : ∃u,vs=[u]∧R w e a u:=by
 unfold Rs at h
 obtain⟨u,us,rfl,h1,h2⟩:=h
 unfold Rs at h2
 exact⟨u,by rw [h2],h1⟩
theorem Rs2 {w:World} {e:Env} {a b:PV} {vs:List Value} (h:Rs w e [a,b] vs) : ∃u v,vs=[u,v]∧R w e a u∧R w e b v:=by
 unfold Rs at h
 obtain⟨u,us,rfl,h1,h2⟩:=h
 obtain⟨v,rfl,h3⟩:=Rs1 h2
 exact⟨u,v,rfl,h1,h3⟩
theorem Rs3 {w:World} {e:Env} {a b c:PV} {vs:List Value} (h:Rs w e [a,b,c] vs) : ∃u v x,vs=[u,v,x]∧R w e a u∧R w e b v∧R w e c x:=by
 unfold Rs at h
 obtain⟨u,us,rfl,h1,h2⟩:=h
 obtain⟨v,x,rfl,h3,h4⟩:=Rs2 h2
 exact⟨u,v,x,rfl,h1,h3,h4⟩
theorem arr_of {vals:Array Value} {l:List Value} (h:vals.toList=l):vals=l.toArray:=by rw [←h]
def sp_index (p:Pr):FSpec:=fsp (ac aS (a1 aC)) (fun (_,c)=>p.inK .u8 c) (fun (s,c)=>.i .i64 (findI s (u8 c)))
theorem ok_index:FOk Tryz.prog 211 (sp_index std):=by
 refine FOk.of_calls Tryz.func211 rfl rfl fun ⟨s,c⟩ hp w e vals hz hl=>?_
 obtain⟨u,v,hv,h1,h2⟩:=Rs2 hl
 rw [arr_of hv]
 have h1:u=.string ⟨s.toArray⟩:=by unfold R at h1;exact h1
 have h2:v=.int .u8 c:=by unfold R at h2;exact h2
 subst h1 h2
 refine (Tryz.strings_IndexByte ⟨s.toArray⟩ c w).mono ?_
 rintro en w' ⟨rfl,rfl⟩
 refine⟨_,rfl,fun w e=>?_,Below.refl _ _⟩
 rw [ba_list,indexByte_find,←findI_K]
 unfold R
 rfl
def lowU (s:List UInt8):List UInt8:=Lib.toLowerD s
def sp_toLower (p:Pr):FSpec:=fsp (a1 aS) (fun s=>p.leP (p.lenS s) 1073741824) (fun s=>.s (lowU s))
theorem ok_toLower:FOk Tryz.prog 337 (sp_toLower std):=by
 refine FOk.of_calls Tryz.func337 rfl rfl fun s hp w e vals hz hl=>?_
 obtain⟨u,hv,h1⟩:=Rs1 hl
 rw [arr_of hv]
 have h1:u=.string ⟨s.toArray⟩:=by unfold R at h1;exact h1
 subst h1
 have hp:(s.length:Int)≤1073741824:=hp
 have hg:=hz.gl.gl
 refine (Tryz.strings_ToLower_any ⟨s.toArray⟩ w (by rw [ba_size];omega) hg.2.1 hg.2.2).mono ?_
 rintro en w' ⟨rfl,hb⟩
 exact⟨_,rfl,fun w e=>by unfold R;rfl,hb⟩
def repS (s:List UInt8) (n:Int):List UInt8:=Lib.repeatL s n.toNat
def sp_repeat (p:Pr):FSpec:=fsp (ac aS (a1 aI)) (fun (s,n)=>p.leP (p.lenS s) 1073741824∧p.leP 0 n∧p.leP n 65536) (fun (s,n)=>.s (repS s n))
theorem ok_repeat:FOk Tryz.prog 139 (sp_repeat std):=by
 refine FOk.of_calls Tryz.func139 rfl rfl fun ⟨s,n⟩ hp w e vals hz hl=>?_
 obtain⟨u,v,hv,h1,h2⟩:=Rs2 hl
 rw [arr_of hv]
 have h1:u=.string ⟨s.toArray⟩:=by unfold R at h1;exact h1
 have h2:v=.int .i64 n:=by unfold R at h2;exact h2
 subst h1 h2
 obtain⟨p1,p2,p3⟩:(s.length:Int)≤1073741824∧0≤n∧n≤65536:=hp
 obtain⟨N,rfl⟩:=Int.eq_ofNat_of_zero_le p2
 have hm:s.length*N≤1073741824*65536:=Nat.mul_le_mul (by omega) (by omega)
 refine (Tryz.strings_Repeat ⟨s.toArray⟩ N w (by omega) (by rw [ba_size];omega)).mono ?_
 rintro en w' ⟨rfl,hb⟩
 exact⟨_,rfl,fun w e=>by unfold R;rfl,hb⟩
def replS (s old new:List UInt8):List UInt8:=Lib.replaceAll s old new
def sp_replace (p:Pr):FSpec:=fsp (ac aS (ac aS (a1 aS))) (fun (s,old,new)=>p.leP (p.lenS s) 1073741824∧p.leP 1 (p.lenS old)∧new=[]) (fun (s,old,new)=>.s (replS s old new))
theorem ok_replace:FOk Tryz.prog 160 (sp_replace std):=by
 refine FOk.of_calls Tryz.func160 rfl rfl fun ⟨s,o,n⟩ hp w e vals hz hl=>?_
 obtain⟨u,v,x,hv,h1,h2,h3⟩:=Rs3 hl
 rw [arr_of hv]
 have h1:u=.string ⟨s.toArray⟩:=by unfold R at h1;exact h1
 have h2:v=.string ⟨o.toArray⟩:=by unfold R at h2;exact h2
 have h3:x=.string ⟨n.toArray⟩:=by unfold R at h3;exact h3
 subst h1 h2 h3
 obtain⟨p1,p2,rfl⟩:(s.length:Int)≤1073741824∧1≤(o.length:Int)∧n=[]:=hp
 obtain⟨m,hm⟩:=hz.gl.gl.1
 refine (Tryz.strings_ReplaceAll ⟨s.toArray⟩ ⟨o.toArray⟩ ⟨([]:List UInt8).toArray⟩ m w (by rw [ba_size];omega) hm (by rw [ba_size];omega) (by simp [ByteArray.size];omega)).mono ?_
 rintro en w' ⟨rfl,hb⟩
 exact⟨_,rfl,fun w e=>by unfold R;rfl,hb⟩
def fstI (ws:List (List UInt8)) (s:List UInt8):Int:=firstK ws s
def sp_search (p:Pr):FSpec:=fsp (ac aW (a1 aS)) (fun (ws,_)=>incB ws=true∧p.leP (p.len ws) 1073741824) (fun (ws,s)=>.tup [.i .i64 (fstI ws s),.b (hasB ws s)])
theorem ok_search:FOk Tryz.prog 353 (sp_search std):=by
 refine FOk.of_calls Tryz.func353 rfl rfl fun ⟨ws,s⟩ hp w e vals hz hl=>?_
 obtain⟨u,v,hv,h1,h2⟩:=Rs2 hl
 rw [arr_of hv]
 have h2:v=.string ⟨s.toArray⟩:=by unfold R at h2;exact h2
 obtain⟨X,C,hu,hC,hX⟩ : ∃X C,u=.slice X ws.length C∧ws.length≤C∧∀i x,ws[i]? =some x→∃b o,X=some ⟨b,o,none⟩∧e.fz b∧RE w e.fz [.s] b (o+i*1) x:=by unfold R at h1;exact h1
 subst hu h2
 obtain⟨hi,hn⟩:incB ws=true∧(ws.length:Int)≤1073741824:=hp
 have hbs:=bs_hasB ws s hi
 have hdef:hasB ws s=(ws[firstK ws s]? ==some s):=rfl
 have hR : ∀w e,R w e (.tup [.i .i64 (fstI ws s),.b (hasB ws s)]) (.tuple #[.int .i64 (firstK ws s:Int),.bool (hasB ws s)]):=fun w e=>by
  simp [R,Rs,fstI]
 rcases Nat.eq_zero_or_pos ws.length with h0 | h0
 ·have h:=Any2.slices_BinarySearch_string_empty Tryz.searchS X C ⟨s.toArray⟩ w
  rw [h0]
  refine Calls.mono h ?_
  rintro en w' ⟨rfl,rfl⟩
  have : ws=[]:=List.eq_nil_of_length_eq_zero h0
  subst this
  exact⟨_,rfl,hR,Below.refl _ _⟩
 ·obtain⟨b,o,hX0,hfb, -⟩:=hX 0 _ (List.getElem?_eq_getElem h0)
  subst hX0
  have h:=Any2.slices_BinarySearch_string Tryz.searchS b o ws.length C (fun t=>⟨(ws.getD t []).toArray⟩) ⟨s.toArray⟩ w (by omega) (fun j hj=>by
   obtain⟨b',o',h3, -,h4⟩:=hX j _ (List.getElem?_eq_getElem hj)
   cases h3
   unfold RE REs RE2 at h4
   obtain⟨x,h5,h6⟩:=h4
   unfold RA at h6
   rw [h6,Nat.mul_one] at h5
   rw [h5]
   simp [List.getD_eq_getElem?_getD,List.getElem?_eq_getElem hj])
  have hlt : ∀x:List UInt8,(ByteArray.mk x.toArray).toList =x:=fun x=>by rw [Lib.toList_data]
  simp only [hlt] at h
  have hbs':Lib.bsGo (fun t=>Op.bytesLess (ws.getD t []) s) ws.length 0 ws.length=firstK ws s:=hbs
  rw [hbs'] at h
  refine Calls.mono h ?_
  rintro en w' ⟨rfl,q,rfl⟩
  refine⟨_,rfl,?_,⟨rfl,rfl,rfl,Nat.le_refl _,fun _ _=>rfl⟩⟩
  have hd:decide (firstK ws s<ws.length∧ByteArray.mk (ws.getD (firstK ws s) []).toArray =ByteArray.mk s.toArray)=hasB ws s:=by
   rw [hdef,Bool.eq_iff_iff]
   simp only [decide_eq_true_eq,beq_iff_eq,List.getD_eq_getElem?_getD]
   constructor
   ·rintro ⟨h1,h2⟩
    have h3:=congrArg (fun x:ByteArray=>x.data.toList) h2
    simp only [List.getElem?_eq_getElem h1,Option.getD_some] at h3
    rw [List.getElem?_eq_getElem h1,h3]
   ·intro h1
    obtain⟨h2,h3⟩:=List.getElem?_eq_some_iff.1 h1
    exact⟨h2,by rw [h1];rfl⟩
  rw [hd]
  exact hR
end Ax
namespace Ax
set_option maxRecDepth 100000
set_option maxHeartbeats 2000000
section
variable {P:Program} {f:FuncId} {α:Type}
theorem FOk.casesE {A:Args α} {pre1 pre2 pre:α→Prop} {v1 v2 v:α→PV} {e1 e2 e:α→AH} (h1:FOk P f (fsp A pre1 v1 e1)) (h2:FOk P f (fsp A pre2 v2 e2)) (hd : ∀a,pre a→(pre1 a∧v1 a=v a∧e1 a=e a)∨(pre2 a∧v2 a=v a∧e2 a=e a)):FOk P f (fsp A pre v e):=by
 refine⟨h1.fn,fun args out hs hp=>?_⟩
 unfold fsp at hs
 split at hs
 ·rename_i a ha
  cases hs
  rcases hd a (hp _ (List.mem_cons_self ..)) with ⟨g1,g2,g3⟩ | ⟨g1,g2,g3⟩
  ·have:=h1.run args ⟨[pre1 a],v1 a,e1 a⟩ (by unfold fsp;rw [ha]) (fun p hm=>by rw [List.mem_singleton.1 hm];exact g1)
   rw [g2,g3] at this
   intro w e vals hz hl
   refine (this w e vals hz hl).mono ?_
   rintro en w' ⟨u,e',rfl,hP⟩
   exact⟨u,e',rfl,by cases hP;constructor<;>assumption⟩
  ·have:=h2.run args ⟨[pre2 a],v2 a,e2 a⟩ (by unfold fsp;rw [ha]) (fun p hm=>by rw [List.mem_singleton.1 hm];exact g1)
   rw [g2,g3] at this
   intro w e vals hz hl
   refine (this w e vals hz hl).mono ?_
   rintro en w' ⟨u,e',rfl,hP⟩
   exact⟨u,e',rfl,by cases hP;constructor<;>assumption⟩
 ·cases hs
def nilH:List (Nat×Ob)→Bool
 | []=>true
 | (_,.own _ [] _)::r=>nilH r
 | _=>false
theorem nilH_get : ∀{H:AH} {k:Nat} {o:Ob},nilH H=true→H.get k=some o→∃sh t,o=.own sh [] t
 | [],k,o,_,h=>by simp [AH.get] at h
 | (j,x)::r,k,o,hn,h=>by
   unfold nilH at hn
   unfold AH.get at h
   split at hn
   ·rename_i h0;cases h0
   ·rename_i h0
    cases h0
    split at h
    ·cases h;exact⟨_,_,rfl⟩
    ·exact nilH_get hn h
   ·cases hn
theorem FOk.own {A:Args α} {pre:α→Prop} {v v':α→PV} {H:AH} (h:FOk P f (fsp A pre v)) (hH:nilH H=true)
 (hd : ∀a w e u,(∀k,(H.get k).isSome =true→e.on k∧e.adr k=none∧e.len k=0∧e.cap k=0)→R w e (v a) u→R w e (v' a) u):FOk P f (fsp A pre v' fun _=>H):=by
 refine⟨h.fn,fun args out hs hp w e vals hz hl=>?_⟩
 unfold fsp at hs
 split at hs
 ·rename_i a ha
  cases hs
  refine (h.run args ⟨[pre a],v a,[]⟩ (by unfold fsp;rw [ha]) hp w e vals hz hl).mono ?_
  rintro en w' ⟨u,e',rfl,hP⟩
  have hoff : ∀k,¬e'.on k:=fun k hk=>(hP.new k hk).elim (fun h=>h) (fun h=>by have h2:=h.2;simp [AH.get] at h2)
  have hle:e'.Le ⟨fun _=>none,fun _=>0,fun _=>0,e'.fz,fun k=>(H.get k).isSome =true,fun k=>(H.get k).isSome =true⟩:=⟨fun k hk=>(hoff k hk).elim,fun k hk=>(hoff k hk).elim,fun k hk=>(hoff k hk).elim,fun k hk=>(hoff k hk).elim,fun _ h=>h⟩
  have hb : ∀k b,¬Env.blk ⟨fun _=>none,fun _=>0,fun _=>0,e'.fz,fun k=>(H.get k).isSome =true,fun k=>(H.get k).isSome =true⟩ k b:=fun k b ⟨x,hx,_⟩=>by cases hx
  refine⟨u,_,rfl,hd a _ _ _ (fun k hk=>⟨hk,rfl,rfl,rfl⟩) (R_mono (fun _ _=>rfl) hle _ _ hP.val),⟨fun k hk=>hk.elim,fun k hk=>hk.elim,fun k hk=>hk.elim,fun k hk=>hk.elim,fun b hb=>hP.le.fz b hb⟩,
   ⟨fun b hb=>hP.fz.fz b hb,fun k b _ _ hk=>(hb k b hk).elim⟩,fun k o ho=>?_,fun k hk=>.inr ⟨Nat.zero_le _,hk⟩,fun k hk=>.inr ⟨fun h=>h,hk,fun b h=>(hb k b h).elim⟩,fun k hk=>hk.elim,fun k k' b _ _ _ _ hk=>(hb k b hk).elim,⟨hP.chg.os,hP.chg.tape,hP.chg.output,hP.chg.size,fun b hb _=>hP.chg.block b hb fun ⟨k,hk,_⟩=>hk.elim⟩⟩
  obtain⟨sh,t,rfl⟩:=nilH_get hH ho
  exact⟨⟨rfl,.inl ⟨rfl,rfl,rfl⟩⟩,by show (H.get k).isSome =true;rw [ho];rfl,fun _=>by show (H.get k).isSome =true;rw [ho];rfl⟩
 ·cases hs
theorem nil_O {w:World} {e:Env} {k:Nat} {u:Value} (h:e.on k∧e.adr k=none∧e.len k=0∧e.cap k=0) (hr:R w e .esl u):R w e (.osl k) u:=by
 unfold R at *
 exact⟨h.1,by rw [h.2.1,h.2.2.1,h.2.2.2];exact hr⟩
inductive Fol (w:World) (e:Env):List PV→List PV→Prop
 | nil:Fol w e [] []
 | cons {p q:PV} {l r:List PV} (h : ∀u,R w e p u→R w e q u) (t:Fol w e l r):Fol w e (p::l) (q::r)
theorem Rs_fol {w:World} {e:Env} : ∀{l r:List PV},Fol w e l r→∀{vs:List Value},Rs w e l vs→Rs w e r vs
 | _,_,.nil,_,h=>h
 | _,_,.cons h t,vs,hs=>by
   unfold Rs at hs ⊢
   obtain⟨u,us,rfl,h1,h2⟩:=hs
   exact⟨u,us,rfl,h u h1,Rs_fol t h2⟩
theorem agg_fol {w:World} {e:Env} {l r:List PV} (h:Fol w e l r) : ∀u,R w e (.agg l) u→R w e (.agg r) u:=fun u hr=>by
 unfold R at hr ⊢
 obtain⟨vs,rfl,h1⟩:=hr
 exact⟨vs,rfl,Rs_fol h h1⟩
theorem tup_fol {w:World} {e:Env} {l r:List PV} (h:Fol w e l r) : ∀u,R w e (.tup l) u→R w e (.tup r) u:=fun u hr=>by
 unfold R at hr ⊢
 obtain⟨vs,rfl,h1⟩:=hr
 exact⟨vs,rfl,Rs_fol h h1⟩
end
theorem esl_fol {w:World} {e:Env} (h : ∀k,((gmH6 gm0).get k).isSome =true→e.on k∧e.adr k=none∧e.len k=0∧e.cap k=0):Fol w e (gmK gm0 .esl .esl .esl .esl .esl .esl) (gmO6 gm0):=by
 unfold gmO6 gmK
 repeat' first
  | exact .nil
  | refine .cons ?_ ?_
  | exact fun _ h=>h
  | exact fun _ hr=>nil_O (h _ rfl) hr
end Ax
end Go.Proofs.YtghmphmbpdiflaaGreatDoor
