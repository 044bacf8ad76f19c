/-
  The library's functions as the plain walker sees them.
  Conditions: the library's own variables are as the program lays them; none.
-/
import Derived.Test.YtjjonmhpgkahoaaGreatDoorH15
import Derived.Test.YtjjonmhpgkahoaaGreatDoorH17
import Derived.Test.YtjjonmhpgkahoaaGreatDoorH02
import Derived.Test.YtjjonmhpgkahoaaGreatDoorH03
set_option linter.unusedSimpArgs false
set_option linter.unusedVariables false
namespace Go.Proofs.YtjjonmhpgkahoaaGreatDoor
namespace Ax
open Go.RowKit
set_option maxRecDepth 100000
section
variable {P:Program} {f:FuncId} {fn:Func} {α:Type}
theorem FOk.of_calls {A:gi α} {pre:α→Prop} {v:α→PV} (hf:P.funcs[f]? =some fn) (hn:(fn.name=="runtime.NumGoroutine")=false) (hb:fn.body.isNone=false)
 (h : ∀a,pre a→∀(w:World) (e:Env) (vals:Array Value),FzW w e.fz→Rs w e (A.enc a) vals.toList→Calls P f vals w fun en w'=>∃u,en=.returned u∧(∀w e,R w e (v a) u)∧Below w.heap.size w w'):FOk P f (fsp A pre v):=by
 refine⟨⟨fn,hf,hn,hb⟩,fun args out hs hp w e vals hz hl=>?_⟩
 unfold fsp at hs
 split at hs
 ·rename_i a ha
  cases hs
  rw [A.ok _ _ ha] at hl
  refine (h a (hp _ (by simp)) w e vals hz hl).mono ?_
  rintro en w' ⟨u,rfl,hu,hb⟩
  exact⟨u,{ e with on:=fun _=>False,lv:=fun _=>False },rfl,hu _ _,.refl _,.of fun _ h=>h,fun k o hk=>by simp [AH.get] at hk,fun k hk=>.inl hk,fun k hk=>.inl hk,fun k hk=>.inl hk,fun k _ _ h1 h2=>absurd h1 h2,.of_below hb⟩
 ·cases hs
theorem FOk.of_row {A:gi α} {pre:α→Prop} {k:aw} {L:α→List k.Ty} {te:TypeId} (hk:k.flat=true) (hf:P.funcs[f]? =some fn) (hn:(fn.name=="runtime.NumGoroutine")=false) (hb:fn.body.isNone=false)
 (h : ∀a,pre a→∀(w:World) (e:Env) (vals:Array Value),FzW w e.fz→Rs w e (A.enc a) vals.toList→Calls P f vals w fun en w'=>∃u,en=.returned u∧w'.ownsRow w.heap.size te 1 u (L a).length ((L a).map k.val)∧Below w.heap.size w w') :
 FOk P f (fsp A pre (fun _=>.osl 0) fun a=>[(0,.own [k] (L a) te)]):=by
 refine⟨⟨fn,hf,hn,hb⟩,fun args out hs hp w e vals hz hl=>?_⟩
 unfold fsp at hs
 split at hs
 ·rename_i a ha
  cases hs
  rw [A.ok _ _ ha] at hl
  refine (h a (hp _ (by simp)) w e vals hz hl).mono ?_
  rintro en w' ⟨u,rfl,hu,hb⟩
  obtain⟨X,C,hu2,hX⟩ : ∃X C,u=.slice X (L a).length C∧((X=none∧L a=[]∧C=0)∨∃g cur,X=some ⟨g,0,none⟩∧w.heap.size≤g∧w'.heap[g]? =some (.cells cur te (0,0))∧cur.size=C∧((L a).length ≤C∧C≤maxLen)∧cur.toList.take (L a).length =(L a).map k.val):=by
   rcases hu.2 with ⟨rfl,h0⟩ | ⟨g,cap,cur,rfl,h1,h2,h3,h4,h5,h6⟩
   ·have : L a=[]:=List.eq_nil_of_length_eq_zero h0
    exact⟨none,0,by rw [this];rfl,.inl ⟨rfl,this,rfl⟩⟩
   ·exact⟨_,_,rfl,.inr ⟨g,cur,rfl,h1,h2,by simpa using h5,⟨h3,h4⟩,by simpa using h6⟩⟩
  have hget : ∀j o',AH.get [(0,Ob.own [k] (L a) te)] j=some o'→j=0∧o'=.own [k] (L a) te:=fun j o' hj=>by
   unfold AH.get at hj
   split at hj
   ·rename_i hkk;exact⟨(by simpa using hkk:0=j).symm,by cases hj;rfl⟩
   ·cases hj
  have hzl : ∀b,e.fz b→b<w.heap.size:=hz.lt
  refine⟨u,⟨fun _=>X,fun _=>C,fun _=>(L a).length,e.fz,fun j=>j=0,fun j=>j=0⟩,rfl,?_,⟨fun j h=>h.elim,fun j h=>h.elim,fun j h=>h.elim,fun j h=>h.elim,fun b h=>h⟩,.of fun _ h=>h,?_,fun j hj=>.inr ⟨Nat.zero_le _,by cases (show j=0 from hj);rfl⟩,?_,fun j h=>h.elim,fun i j b hi _ hj _ _ _=>(show i=0 from hi).trans (show j=0 from hj).symm,.of_below hb⟩
  ·unfold R;exact⟨rfl,hu2⟩
  ·intro j o hj
   obtain⟨rfl,rfl⟩:=hget j o hj
   refine⟨⟨rfl,?_⟩,rfl,fun _=>rfl⟩
   rcases hX with ⟨h1,h2,h3⟩ | ⟨g,cur,h1,h2,h3,h4,h5,h6⟩
   ·exact .inl ⟨h1,h2,h3⟩
   ·refine .inr ⟨g,cur,h1,fun hf=>absurd (hzl _ hf) (Nat.not_lt.2 h2),h3,by simpa using h4,h5,fun i x hx=>?_⟩
    have hil:=(List.getElem?_eq_some_iff.1 hx).1
    have hc:w'.cell? ⟨g,i,none⟩=some (k.val x):=by
     rw [cell_of_row _ g _ cur te _ h3]
     have:=congrArg (fun l=>l[i]?) h6
     simp only [List.getElem?_take,if_pos hil,List.getElem?_map,hx,Option.map_some] at this
     simpa using this
    unfold RE REs RE2
    refine⟨k.val x,by simpa using hc,?_⟩
    cases k with
    | r _=>cases hk
    | _=>unfold RA aw.val;rfl
  ·intro j hj
   cases (show j=0 from hj)
   refine .inr ⟨fun h=>h.elim,rfl,fun b ⟨x,h1,h2⟩=>?_⟩
   have h1:X=some x:=h1
   rcases hX with ⟨h3, -⟩ | ⟨g,cur,h3,h4,h5, -⟩
   ·rw [h3] at h1;cases h1
   ·rw [h3] at h1
    cases h1
    subst h2
    exact⟨nt h5,.inl h4⟩
 ·cases hs
theorem FOk.frz {A:gi α} {pre:α→Prop} {v v':α→PV} {eff:α→AH} (h:FOk P f (fsp A pre v eff)) (hd : ∀a,deep (eff a) 12 (v a)=v' a∧(v' a).idIn []=true):FOk P f (fsp A pre v'):=by
 refine⟨h.fn,fun args out hs hp w e vals hz hl=>?_⟩
 unfold fsp at hs
 split at hs
 ·rename_i a ha
  cases hs
  refine (h.run args ⟨[pre a],v a,eff a⟩ (by unfold fsp;rw [ha]) hp w e vals hz hl).mono ?_
  rintro en w' ⟨u,e',rfl,hP⟩
  have hfz':FzW w' e'.fz:=⟨fun b hb=>(hP.fz.fz b hb).elim (fun h=>Nat.lt_of_lt_of_le (hz.lt b h) hP.chg.size) (·.2),(hz.gl.chg hP.chg (fun b hb=>⟨hz.lt b hb,fun ⟨k,hk,_⟩=>hk.elim⟩)).mono hP.le.fz⟩
  have hsee:lO w' e' (eff a):=⟨fun id o ho=>hP.eff id o ho,hfz',fun k k' b hk hk' hb hb'=>hP.dis k k' b hk (fun h=>h) hk' (fun h=>h) hb hb'⟩
  have hF:Frz w' e' (eff a) { e' with fz:=fun b=>e'.fz b∨w.heap.size≤b∧b<w'.heap.size }:=by
   refine⟨⟨fun _ h=>h,fun _ _=>rfl,fun _ _=>rfl,fun _ _=>rfl,fun b hb=>.inl hb⟩,fun id o b ho hg hb=>.inr ?_⟩
   rcases hP.nlv id ((hP.eff id o ho).2.2 hg) with h1 | ⟨-, -,h1⟩
   ·exact h1.elim
   ·exact⟨(h1 b hb).2.resolve_right fun ⟨j,hj,_⟩=>hj.elim,(h1 b hb).1⟩
  have hR:=yB hsee hF 12 (v a) u hP.val
  rw [(hd a).1] at hR
  have hrn:Rn id [] { e' with fz:=fun b=>e'.fz b∨w.heap.size≤b∧b<w'.heap.size } ⟨e'.adr,e'.cap,e'.len,fun b=>e'.fz b∨w.heap.size≤b∧b<w'.heap.size,fun _=>False,fun _=>False⟩:=⟨fun k hk=>absurd hk (by simp),fun _=>rfl,fun _=>rfl,fun _=>rfl,rfl⟩
  exact⟨u,_,rfl,yK hrn (v' a) u (hd a).2 (by rw [Hv];exact hR),⟨fun k hk=>hk.elim,fun k hk=>hk.elim,fun k hk=>hk.elim,fun k hk=>hk.elim,fun b hb=>.inl (hP.le.fz b hb)⟩,
   ⟨fun b hb=>hb.elim (hP.fz.fz b) .inr,fun k b hk=>hk.elim⟩,fun k o hk=>by simp [AH.get] at hk,fun k hk=>hk.elim,fun k hk=>hk.elim,fun k hk=>hk.elim,fun k _ _ hk=>hk.elim,⟨hP.chg.os,hP.chg.tape,hP.chg.output,hP.chg.size,fun b hb _=>hP.chg.block b hb fun ⟨k,hk,_⟩=>hk.elim⟩⟩
 ·cases hs
def aa.or (S T:aa):aa:=fun l=>match S l with | some o=>some o | none=>T l
theorem FOk.or {S T:aa} (hS:FOk P f S) (hT:FOk P f T):FOk P f (S.or T):=⟨hS.fn,fun l out h hp=>by
 unfold aa.or at h
 split at h
 ·rename_i hs;cases h;exact hS.run l _ hs hp
 ·exact hT.run l out h hp⟩
end
theorem NK (l:List UInt8):(ByteArray.mk l.toArray).data.toList =l:=rfl
theorem wu (l:List UInt8):(ByteArray.mk l.toArray).size =l.length:=by simp [ByteArray.size]
theorem Rs1 {w:World} {e:Env} {a:PV} {vs:List Value} (h:Rs w e [a] vs) : ∃u,vs=[u]∧R w e a u:=by
 unfold Rs at h
 obtain⟨u,us,rfl,h1,h2⟩:=h
 unfold Rs at h2
 exact⟨u,by rw [h2],h1⟩
theorem Rs2 {w:World} {e:Env} {a b:PV} {vs:List Value} (h:Rs w e [a,b] vs) : ∃u v,vs=[u,v]∧R w e a u∧R w e b v:=by
 unfold Rs at h
 obtain⟨u,us,rfl,h1,h2⟩:=h
 obtain⟨v,rfl,h3⟩:=Rs1 h2
 exact⟨u,v,rfl,h1,h3⟩
theorem Rs3 {w:World} {e:Env} {a b c:PV} {vs:List Value} (h:Rs w e [a,b,c] vs) : ∃u v x,vs=[u,v,x]∧R w e a u∧R w e b v∧R w e c x:=by
 unfold Rs at h
 obtain⟨u,us,rfl,h1,h2⟩:=h
 obtain⟨v,x,rfl,h3,h4⟩:=Rs2 h2
 exact⟨u,v,x,rfl,h1,h3,h4⟩
theorem eW {vals:Array Value} {l:List Value} (h:vals.toList=l):vals=l.toArray:=by rw [←h]
def pL (p:Pr):aa:=fsp (ac aS (a1 aC)) (fun (_,c)=>p.inK .u8 c) (fun (s,c)=>.i .i64 (dz s (u8 c)))
theorem CI:FOk Tryz.prog 247 (pL std):=by
 refine FOk.of_calls Tryz.func247 rfl rfl fun ⟨s,c⟩ hp w e vals hz hl=>?_
 obtain⟨u,v,hv,h1,h2⟩:=Rs2 hl
 rw [eW hv]
 have h1:u=.string ⟨s.toArray⟩:=by unfold R at h1;exact h1
 have h2:v=.int .u8 c:=by unfold R at h2;exact h2
 subst h1 h2
 refine (Tryz.strings_IndexByte ⟨s.toArray⟩ c w).mono ?_
 rintro en w' ⟨rfl,rfl⟩
 refine⟨_,rfl,fun w e=>?_,Below.refl _ _⟩
 rw [NK,oW,←sM]
 unfold R
 rfl
def oM (s:List UInt8):List UInt8:=Lib.toLowerD s
def lp (p:Pr):aa:=fsp (a1 aS) (fun s=>p.leP (p.lenS s) 1073741824) (fun s=>.s (oM s))
theorem xq:FOk Tryz.prog 303 (lp std):=by
 refine FOk.of_calls Tryz.func303 rfl rfl fun s hp w e vals hz hl=>?_
 obtain⟨u,hv,h1⟩:=Rs1 hl
 rw [eW hv]
 have h1:u=.string ⟨s.toArray⟩:=by unfold R at h1;exact h1
 subst h1
 have hp:(s.length:Int)≤1073741824:=hp
 have hg:=hz.gl.gl.lt
 refine (Tryz.strings_ToLower_any ⟨s.toArray⟩ w (by rw [wu];omega) hg.1 hg.2).mono ?_
 rintro en w' ⟨rfl,hb⟩
 exact⟨_,rfl,fun w e=>by unfold R;rfl,hb⟩
def CX (s:List UInt8) (n:Int):List UInt8:=Lib.repeatL s n.toNat
def tP (p:Pr):aa:=fsp (ac aS (a1 aI)) (fun (s,n)=>p.leP (p.lenS s) 1073741824∧p.leP 0 n∧p.leP n 65536) (fun (s,n)=>.s (CX s n))
theorem Ip:FOk Tryz.prog 167 (tP std):=by
 refine FOk.of_calls Tryz.func167 rfl rfl fun ⟨s,n⟩ hp w e vals hz hl=>?_
 obtain⟨u,v,hv,h1,h2⟩:=Rs2 hl
 rw [eW hv]
 have h1:u=.string ⟨s.toArray⟩:=by unfold R at h1;exact h1
 have h2:v=.int .i64 n:=by unfold R at h2;exact h2
 subst h1 h2
 obtain⟨p1,p2,p3⟩:(s.length:Int)≤1073741824∧0≤n∧n≤65536:=hp
 obtain⟨N,rfl⟩:=Int.eq_ofNat_of_zero_le p2
 have hm:s.length*N≤1073741824*65536:=Nat.mul_le_mul (by omega) (by omega)
 refine (Tryz.strings_Repeat ⟨s.toArray⟩ N w (by omega) (by rw [wu];omega)).mono ?_
 rintro en w' ⟨rfl,hb⟩
 exact⟨_,rfl,fun w e=>by unfold R;rfl,hb⟩
def Po (s old new:List UInt8):List UInt8:=Lib.replaceAll s old new
def rL (p:Pr):aa:=fsp (ac aS (ac aS (a1 aS))) (fun (s,old,new)=>p.leP (p.lenS s) 1073741824∧p.leP 1 (p.lenS old)∧new=[]) (fun (s,old,new)=>.s (Po s old new))
theorem Fq:FOk Tryz.prog 187 (rL std):=by
 refine FOk.of_calls Tryz.func187 rfl rfl fun ⟨s,o,n⟩ hp w e vals hz hl=>?_
 obtain⟨u,v,x,hv,h1,h2,h3⟩:=Rs3 hl
 rw [eW hv]
 have h1:u=.string ⟨s.toArray⟩:=by unfold R at h1;exact h1
 have h2:v=.string ⟨o.toArray⟩:=by unfold R at h2;exact h2
 have h3:x=.string ⟨n.toArray⟩:=by unfold R at h3;exact h3
 subst h1 h2 h3
 obtain⟨p1,p2,rfl⟩:(s.length:Int)≤1073741824∧1≤(o.length:Int)∧n=[]:=hp
 obtain⟨m,hm⟩:=hz.gl.gl.mx
 refine (Tryz.strings_ReplaceAll ⟨s.toArray⟩ ⟨o.toArray⟩ ⟨([]:List UInt8).toArray⟩ m w (by rw [wu];omega) hm (by rw [wu];omega) (by simp [ByteArray.size];omega)).mono ?_
 rintro en w' ⟨rfl,hb⟩
 exact⟨_,rfl,fun w e=>by unfold R;rfl,hb⟩
def Mw (ws:List (List UInt8)) (s:List UInt8):Int:=cM ws s
def uC (p:Pr):aa:=fsp (ac aW (a1 aS)) (fun (ws,_)=>mR ws=true∧p.leP (p.len ws) 1073741824) (fun (ws,s)=>.tup [.i .i64 (Mw ws s),.b (hasB ws s)])
theorem HS:FOk Tryz.prog 228 (uC std):=by
 refine FOk.of_calls Tryz.func228 rfl rfl fun ⟨ws,s⟩ hp w e vals hz hl=>?_
 obtain⟨u,v,hv,h1,h2⟩:=Rs2 hl
 rw [eW hv]
 have h2:v=.string ⟨s.toArray⟩:=by unfold R at h2;exact h2
 obtain⟨X,C,hu,hC,hX⟩ : ∃X C,u=.slice X ws.length C∧ws.length≤C∧∀i x,ws[i]? =some x→∃b o,X=some ⟨b,o,none⟩∧e.fz b∧RE w e.fz [.s] b (o+i*1) x:=by unfold R at h1;exact h1
 subst hu h2
 obtain⟨hi,hn⟩:mR ws=true∧(ws.length:Int)≤1073741824:=hp
 have hbs:=MH ws s hi
 have hdef:hasB ws s=(ws[cM ws s]? ==some s):=rfl
 have hR : ∀w e,R w e (.tup [.i .i64 (Mw ws s),.b (hasB ws s)]) (.tuple #[.int .i64 (cM ws s:Int),.bool (hasB ws s)]):=fun w e=>by
  simp [R,Rs,Mw]
 rcases Nat.eq_zero_or_pos ws.length with h0 | h0
 ·have h:=Any2.slices_BinarySearch_string_empty Tryz.searchS X C ⟨s.toArray⟩ w
  rw [h0]
  refine Calls.mono h ?_
  rintro en w' ⟨rfl,rfl⟩
  have : ws=[]:=List.eq_nil_of_length_eq_zero h0
  subst this
  exact⟨_,rfl,hR,Below.refl _ _⟩
 ·obtain⟨b,o,hX0,hfb, -⟩:=hX 0 _ (List.getElem?_eq_getElem h0)
  subst hX0
  have h:=Any2.slices_BinarySearch_string Tryz.searchS b o ws.length C (fun t=>⟨(ws.getD t []).toArray⟩) ⟨s.toArray⟩ w (by omega) (fun j hj=>by
   obtain⟨b',o',h3, -,h4⟩:=hX j _ (List.getElem?_eq_getElem hj)
   cases h3
   unfold RE REs RE2 at h4
   obtain⟨x,h5,h6⟩:=h4
   unfold RA at h6
   rw [h6,Nat.mul_one] at h5
   rw [h5]
   simp [List.getD_eq_getElem?_getD,List.getElem?_eq_getElem hj])
  have hlt : ∀x:List UInt8,(ByteArray.mk x.toArray).toList =x:=fun x=>by rw [Lib.toList_data]
  simp only [hlt] at h
  have hbs':Lib.bsGo (fun t=>Op.bytesLess (ws.getD t []) s) ws.length 0 ws.length=cM ws s:=hbs
  rw [hbs'] at h
  refine Calls.mono h ?_
  rintro en w' ⟨rfl,q,rfl⟩
  refine⟨_,rfl,?_,⟨rfl,rfl,rfl,Nat.le_refl _,fun _ _=>rfl⟩⟩
  have hd:decide (cM ws s<ws.length∧ByteArray.mk (ws.getD (cM ws s) []).toArray =ByteArray.mk s.toArray)=hasB ws s:=by
   rw [hdef,Bool.eq_iff_iff]
   simp only [decide_eq_true_eq,beq_iff_eq,List.getD_eq_getElem?_getD]
   constructor
   ·rintro ⟨h1,h2⟩
    have h3:=congrArg (fun x:ByteArray=>x.data.toList) h2
    simp only [List.getElem?_eq_getElem h1,Option.getD_some] at h3
    rw [List.getElem?_eq_getElem h1,h3]
   ·intro h1
    obtain⟨h2,h3⟩:=List.getElem?_eq_some_iff.1 h1
    exact⟨h2,by rw [h1];rfl⟩
  rw [hd]
  exact hR
end Ax
end Go.Proofs.YtjjonmhpgkahoaaGreatDoor
namespace Go.Proofs.YtjjonmhpgkahoaaGreatDoor
open Go.RowKit
set_option maxHeartbeats 1000000
set_option maxRecDepth 100000
theorem VJ:SlT Tryz.prog 24 2 (.int .i64 0) 1 8:=⟨Tryz.underlying24,by kernel_rfl,rfl,by decide⟩
theorem VZ:SlT Tryz.prog 27 9 (.string ⟨#[]⟩) 1 16:=⟨Tryz.underlying27,by kernel_rfl,rfl,by decide⟩
theorem HL (A:Option Addr) (c n:Nat) (xs:List Value) (w:World) (h:Reads w w.heap.size 1 A n xs) (h1 : ∀u∈xs,u.oneCell'=true) (hn:n≤2 ^ 38) (h0:A=none→n=0) :
 Calls Tryz.prog 209 #[.slice A n c] w fun e w'=>∃v,e=.returned v∧w'.ownsRow w.heap.size 2 1 v n xs∧Below w.heap.size w w':=by
 have q22 : ∀(w:World) (a:Option Addr) (n c n' c':Nat),(binOp .eql 24 (.slice a n c) (.slice none n' c')).run Tryz.prog w=.ok (.bool a.isNone) w:=fun w a n c n' c'=>Lib.run_eql_slice_nil w _ _ a n c n' c' Tryz.underlying24
 have hr:Reads (w.alloc (.cells #[] 2)) w.heap.size 1 A n xs:=h.alloc (Nat.le_refl _) _
 have own0:=World.ownsRow_lit (base:=w.heap.size) (size:=1) (e:=2) w #[] 0 (Nat.le_refl _) (by unfold maxLen;omega) rfl
 have hb0:=(Below.refl w.heap.size w).alloc (Nat.le_refl _) (.cells #[] 2)
 cases A with
 | none=>
   obtain rfl:=h0 rfl
   have hx:xs=[]:=List.eq_nil_of_length_eq_zero (by simpa using h.1)
   subst hx
   clear hr own0 hb0 h
   go_enter Tryz.func209,Tryz.ntmps209
   go_wp2_with (fail)
   go_ret
   exact⟨_,rfl,World.ownsRow_nil _ _ _ _,Below.refl _ _⟩
 | some ad=>
   clear h h0
   go_enter Tryz.func209,Tryz.ntmps209
   go_wp2_with (at_builtin;refine vh VJ rfl (.tmp 5) (.tmp 6) rfl _ 0 [] rfl w.heap.size own0 w.heap.size (some ad) n c xs rfl hr h1 (by omega) (by omega) hb0.size ?_;intro v1 w1 own1 hg1 _)
   go_ret
   exact⟨_,rfl,wY own1 (by simp) (by omega),Below.own hb0 hb0.size own0 (Nat.le_refl _) hg1⟩
theorem HD (A:Option Addr) (c n:Nat) (xs:List Value) (w:World) (h:Reads w w.heap.size 1 A n xs) (h1 : ∀u∈xs,u.oneCell'=true) (hn:n≤2 ^ 38) (h0:A=none→n=0) :
 Calls Tryz.prog 208 #[.slice A n c] w fun e w'=>∃v,e=.returned v∧w'.ownsRow w.heap.size 9 1 v n xs∧Below w.heap.size w w':=by
 have q22 : ∀(w:World) (a:Option Addr) (n c n' c':Nat),(binOp .eql 27 (.slice a n c) (.slice none n' c')).run Tryz.prog w=.ok (.bool a.isNone) w:=fun w a n c n' c'=>Lib.run_eql_slice_nil w _ _ a n c n' c' Tryz.underlying27
 have hr:Reads (w.alloc (.cells #[] 9)) w.heap.size 1 A n xs:=h.alloc (Nat.le_refl _) _
 have own0:=World.ownsRow_lit (base:=w.heap.size) (size:=1) (e:=9) w #[] 0 (Nat.le_refl _) (by unfold maxLen;omega) rfl
 have hb0:=(Below.refl w.heap.size w).alloc (Nat.le_refl _) (.cells #[] 9)
 cases A with
 | none=>
   obtain rfl:=h0 rfl
   have hx:xs=[]:=List.eq_nil_of_length_eq_zero (by simpa using h.1)
   subst hx
   clear hr own0 hb0 h
   go_enter Tryz.func208,Tryz.ntmps208
   go_wp2_with (fail)
   go_ret
   exact⟨_,rfl,World.ownsRow_nil _ _ _ _,Below.refl _ _⟩
 | some ad=>
   clear h h0
   go_enter Tryz.func208,Tryz.ntmps208
   go_wp2_with (at_builtin;refine vh VZ rfl (.tmp 5) (.tmp 6) rfl _ 0 [] rfl w.heap.size own0 w.heap.size (some ad) n c xs rfl hr h1 (by omega) (by omega) hb0.size ?_;intro v1 w1 own1 hg1 _)
   go_ret
   exact⟨_,rfl,wY own1 (by simp) (by omega),Below.own hb0 hb0.size own0 (Nat.le_refl _) hg1⟩
namespace Ax
theorem SlR.reads {w:World} {e:Env} {k:aw} (hk:k.flat=true) {L:List k.Ty} {u:Value} (hz : ∀b,e.fz b→b<w.heap.size) (h:R w e (.rsl [k] L) u) :
 ∃A c,u=.slice A L.length c∧Reads w w.heap.size 1 A L.length (L.map k.val)∧∀x∈L.map k.val,x.oneCell'=true:=by
 obtain⟨X,C,hu,hC,hX⟩ : ∃X C,u=.slice X L.length C∧L.length≤C∧∀i x,L[i]? =some x→∃b o,X=some ⟨b,o,none⟩∧e.fz b∧RE w e.fz [k] b (o+i*1) x:=by unfold R at h;exact h
 have hv : ∀x v,RA w e.fz k x v→v=k.val x:=fun x v h=>by
  cases k with
  | r _=>cases hk
  | _=>unfold RA at h;exact h
 refine⟨X,C,hu,⟨by simp,fun h0=>?_⟩,fun x hx=>?_⟩
 ·obtain⟨b,o,hX0,hfb, -⟩:=hX 0 _ (List.getElem?_eq_getElem h0)
  subst hX0
  refine⟨_,rfl,hz b hfb,fun j x hj=>?_⟩
  rw [List.getElem?_map,Option.map_eq_some_iff] at hj
  obtain⟨y,hy,rfl⟩:=hj
  obtain⟨b',o',h3, -,h4⟩:=hX j _ hy
  cases h3
  unfold RE REs RE2 at h4
  obtain⟨x,h5,h6⟩:=h4
  rw [hv _ _ h6,Nat.mul_one] at h5
  have hadd:(⟨b,o,none⟩:Addr).add j=⟨b,o+j,none⟩:=by unfold Addr.add;split<;>simp_all
  rw [hadd]
  exact h5
 ·obtain⟨y, -,rfl⟩:=List.mem_map.1 hx
  cases k with
  | r _=>cases hk
  | _=>rfl
theorem SlR.none {w:World} {e:Env} {k:aw} {L:List k.Ty} {c:Nat} (h:R w e (.rsl [k] L) (.slice .none L.length c)):L.length=0:=by
 obtain⟨X,C,hu,hC,hX⟩ : ∃X C,Value.slice .none L.length c=.slice X L.length C∧L.length≤C∧∀i x,L[i]? =some x→∃b o,X=some ⟨b,o,.none⟩∧e.fz b∧RE w e.fz [k] b (o+i*1) x:=by unfold R at h;exact h
 cases hu
 cases L with
 | nil=>rfl
 | cons x r=>obtain⟨b,o,h1, -⟩:=hX 0 x rfl;cases h1
def mT (p:Pr):aa:=fsp (a1 aN) (fun l=>p.leP (p.len l) 1073741824) (fun _=>.osl 0) fun l=>[(0,.own [.i .i64] l 2)]
theorem zA:FOk Tryz.prog 209 (mT std):=by
 refine FOk.of_row (k:=.i .i64) (L:=fun l=>l) rfl Tryz.func209 rfl rfl fun l hp w e vals hz hl=>?_
 obtain⟨u,hv,h1⟩:=Rs1 hl
 rw [eW hv]
 obtain⟨A,c,rfl,h2,h3⟩:=SlR.reads (k:=.i .i64) rfl hz.lt h1
 have hp:(l.length:Int)≤1073741824:=hp
 exact HL A c _ _ w h2 h3 (by omega) fun h=>by subst h;exact SlR.none (k:=.i .i64) h1
def mV (p:Pr):aa:=fsp (a1 aW) (fun l=>p.leP (p.len l) 1073741824) (fun _=>.osl 0) fun l=>[(0,.own [.s] l 9)]
theorem Ae:FOk Tryz.prog 208 (mV std):=by
 refine FOk.of_row (k:=.s) (L:=fun l=>l) rfl Tryz.func208 rfl rfl fun l hp w e vals hz hl=>?_
 obtain⟨u,hv,h1⟩:=Rs1 hl
 rw [eW hv]
 obtain⟨A,c,rfl,h2,h3⟩:=SlR.reads (k:=.s) rfl hz.lt h1
 have hp:(l.length:Int)≤1073741824:=hp
 exact HD A c _ _ w h2 h3 (by omega) fun h=>by subst h;exact SlR.none (k:=.s) h1
end Ax
end Go.Proofs.YtjjonmhpgkahoaaGreatDoor
namespace Go.Proofs.YtjjonmhpgkahoaaGreatDoor
namespace Ax
set_option maxRecDepth 100000
set_option maxHeartbeats 2000000
def m7 {α:Type} (r:α→α→Bool):List α→Bool
 | a::b::l=>r a b&&m7 r (b::l)
 | _=>true
theorem mY {α:Type} {r:α→α→Bool} {L:List α} {k:Int} (h1:1≤k) (h2:k<L.length) (d:α):m7 r (L.drop (k-1).toNat)=(r (L.getD (k-1).toNat d) (L.getD k.toNat d)&&m7 r (L.drop (k+1-1).toNat)):=by
 have e1:L.drop (k-1).toNat =L.getD (k-1).toNat d::L.drop k.toNat:=by
  have:=dc (L:=L) (a:=k-1) (by omega) (by omega) d
  rw [show k-1+1=k from by omega] at this
  exact this
 have e2:L.drop k.toNat=L.getD k.toNat d::L.drop (k+1).toNat :=dc (L:=L) (a:=k) (by omega) (by omega) d
 rw [show k+1-1=k from by omega,e1,e2,m7]
theorem BW {α:Type} {r:α→α→Bool} {L:List α} {k:Int} (h2:(L.length:Int)≤k):m7 r (L.drop (k-1).toNat)=true:=by
 have : (L.drop (k-1).toNat).length ≤1:=by rw [List.length_drop];omega
 match hL:L.drop (k-1).toNat,this with
 | [],_=>rfl
 | [_],_=>rfl
 | _::_::_,h=>simp at h
theorem Ch (q:UInt8) : ∀s:List UInt8,dt (some q) s=(s.all aK&&m7 leB (q::s))
 | []=>rfl
 | a::r=>by
   rw [dt,Ch a r,m7,List.all_cons]
   cases aK a<;>cases leB q a<;>cases r.all aK<;>simp
theorem wO (s:List UInt8):cu s=(decide (s.length≤120)&&(s.all aK&&m7 leB s)):=by
 unfold cu
 rw [Bool.and_comm]
 congr 1
 cases s with
 | nil=>rfl
 | cons a r=>rw [dt,Ch,List.all_cons,Bool.and_assoc]
theorem F4 (q:UInt8) : ∀s:List UInt8,eV (some q) s=(m7 (fun a b=>decide (a.toNat<b.toNat)) (q::s)&&s.all aZ)
 | []=>rfl
 | a::r=>by
   rw [eV,F4 a r,m7,List.all_cons]
   cases aZ a<;>simp [Ce,Bool.and_assoc]
theorem P6 (s:List UInt8):eV none s=(m7 (fun a b=>decide (a.toNat<b.toNat)) s&&s.all aZ):=by
 cases s with
 | nil=>rfl
 | cons a r=>
   rw [eV,F4,List.all_cons]
   cases aZ a<;>simp [Ce]
theorem Dw (q:List UInt8) : ∀s:List (List UInt8),lexFrom (some q) s=(m7 sLt (q::s)&&s.all ik)
 | []=>rfl
 | a::r=>by
   rw [lexFrom,Dw a r,m7,List.all_cons]
   cases ik a<;>cases sLt q a<;>simp
theorem GI (s:List (List UInt8)):lexFrom none s=(m7 sLt s&&s.all ik):=by
 cases s with
 | nil=>rfl
 | cons a r=>
   rw [lexFrom,Dw,List.all_cons]
   cases ik a<;>simp
theorem wy : ∀s:List (List UInt8),mR s=m7 sLt s
 | []=>rfl
 | [_]=>rfl
 | a::b::r=>by rw [mR,m7,wy (b::r)]
theorem Qx (l:List UInt8) (k:Int):std.get 0 (std.toB l) k=std.byte l k:=by
 show (aq l).getD k.toNat 0=_
 unfold aq
 rw [List.getD_eq_getElem?_getD,List.getElem?_map,Bh,List.getD_eq_getElem?_getD]
 cases l[k.toNat]? <;>rfl
theorem Rh (l:List UInt8):std.len (std.toB l)=l.length:=by simp [aq]
def gO (p:Pr):aa:=fsp (a1 aC) (fun n=>True) (fun n=>.b (inR n 97 122))
theorem ru:FOk Tryz.prog 248 (gO std):=by
 refine FOk.go (c:=cx std [] [] 0) (ae .nil .nil) mixed Tryz.func248 rfl rfl rfl (by kernel_rfl) ?_
 rintro n hp
 refine⟨rfl,?_⟩
 generalize hP:std=p,hB0:inR=B0
 cbv
 repeat' first|refine fun (_:Unit)=>?_;cbv|refine aI2 (fun h=>?_) (fun h=>?_)<;>cbv|refine aI2 ?_ ?_|refine Or.inl (fun (_:Unit)=>?_);cbv
 all_goals subst hP hB0
 all_goals try exact fin
 all_goals (simp [std,inR] at * <;>first | lia | (simp_all;done))
def iH (p:Pr):aa:=fsp (a1 aC) (fun n=>True) (fun n=>.b (inR n 65 90))
theorem sZ:FOk Tryz.prog 188 (iH std):=by
 refine FOk.go (c:=cx std [] [] 0) (ae .nil .nil) mixed Tryz.func188 rfl rfl rfl (by kernel_rfl) ?_
 rintro n hp
 refine⟨rfl,?_⟩
 generalize hP:std=p,hB0:inR=B0
 cbv
 repeat' first|refine fun (_:Unit)=>?_;cbv|refine aI2 (fun h=>?_) (fun h=>?_)<;>cbv|refine aI2 ?_ ?_|refine Or.inl (fun (_:Unit)=>?_);cbv
 all_goals subst hP hB0
 all_goals try exact fin
 all_goals (simp [std,inR] at * <;>first | lia | (simp_all;done))
def bw (p:Pr):aa:=fsp (ac aI (ac aI (a1 aI))) (fun (n,lo,hi)=>True) (fun (n,lo,hi)=>.b (inR n lo hi))
theorem et:FOk Tryz.prog 83 (bw std):=by
 refine FOk.go (c:=cx std [] [] 0) (ae .nil .nil) mixed Tryz.func83 rfl rfl rfl (by kernel_rfl) ?_
 rintro ⟨n,lo,hi⟩ hp
 dsimp only at hp
 refine⟨rfl,?_⟩
 generalize hP:std=p,hB0:inR=B0
 cbv
 repeat' first|refine fun (_:Unit)=>?_;cbv|refine aI2 (fun h=>?_) (fun h=>?_)<;>cbv|refine aI2 ?_ ?_|refine Or.inl (fun (_:Unit)=>?_);cbv
 all_goals subst hP hB0
 all_goals try exact fin
 all_goals (simp [std,inR] at * <;>first | lia | (simp_all;done))
theorem EA (s:List UInt8) (k:Int):inR (std.byte s k) 97 122=aZ (s.getD k.toNat 0):=rfl
theorem DU (s:List UInt8) (k:Int):inR (std.byte s k) 65 90=kw (s.getD k.toNat 0):=rfl
def dQ (c:Int):Int:=if c=63 then 0 else if inR c 97 122=true then c-96 else -1
def tiS (s:List UInt8):Bool:=s.all aK
theorem Cw (s:List UInt8) (k:Int):aK (s.getD k.toNat 0)=decide (0≤dQ (std.byte s k)):=by
 show _=decide (0≤dQ ((s.getD k.toNat 0).toNat : Int))
 generalize s.getD k.toNat 0=c
 unfold aK dQ inR aZ
 have e:(c==63)=decide ((c.toNat:Int)=63):=by
  rw [Bool.eq_iff_iff,beq_iff_eq,decide_eq_true_eq]
  constructor
  ·rintro rfl;rfl
  ·intro h;exact UInt8.toNat_inj.1 (by show c.toNat=63;omega)
 rw [e]
 by_cases h:(c.toNat:Int)=63
 ·rw [if_pos h,decide_eq_true h];rfl
 ·rw [if_neg h,decide_eq_false h,Bool.false_or]
  by_cases h2:97≤(c.toNat:Int)∧(c.toNat:Int)≤122
  ·rw [decide_eq_true h2.1,decide_eq_true h2.2,if_pos (by rfl),decide_eq_true (by omega)];rfl
  ·have : (decide (97≤(c.toNat:Int))&&decide ((c.toNat:Int)≤122))=false:=by
    rw [Bool.eq_false_iff];intro h3;simp only [Bool.and_eq_true,decide_eq_true_eq] at h3;exact h2 h3
   rw [this,if_neg (by simp)];rfl
theorem Q5 {s:List UInt8} {k:Int} (h:std.ltI (dQ (std.byte s k)) 0=true):aK (s.getD k.toNat 0)=false:=by
 rw [Cw,decide_eq_false];have:=ah h;omega
theorem No {s:List UInt8} {k:Int} (h:std.ltI (dQ (std.byte s k)) 0=false):aK (s.getD k.toNat 0)=true:=by
 rw [Cw,decide_eq_true];exact ao h
def yr (s:List UInt8):Bool:=m7 (fun a b=>decide (a.toNat<b.toNat)) s&&s.all aZ
def smS (s:List UInt8):Bool:=s.all aZ
def fl (p:Pr):aa:=fsp (a1 aS) (fun s=>p.ltM (p.lenS s)) (fun s=>.b (smS s))
theorem oT:FOk Tryz.prog 245 (fl std):=by
 refine FOk.go (c:=cx std [(248,gO std)] [] 0) (ae (.cons ru .nil) .nil) mixed Tryz.func245 rfl rfl rfl (by kernel_rfl) ?_
 rintro s hp
 refine⟨rfl,?_⟩
 unfold gO
 obtain⟨H,hH⟩ : ∃H:Hd (Int),H=⟨fun k=>0≤k∧k≤s.length∧smS s=smS (s.drop k.toNat),fun k=>(s.length-k).toNat,(· < ·)⟩:=⟨_,rfl⟩
 have hl:=hdl hH
 generalize hP:std=p,hB0:smS=B0,hB1:inR=B1
 cbv
 repeat' first|refine fun (_:Unit)=>?_;cbv|refine Or.inr ⟨9,[],[.s 8 (.i .i64)],[],[],H,rfl,hl,?_,fun (k:Int) hk=>?_⟩<;>cbv|refine aI2 (fun h=>?_) (fun h=>?_)<;>cbv|refine aI2 ?_ ?_
 all_goals subst hP hB0 hB1 hH
 all_goals clear hl
 all_goals try dsimp only at hk
 all_goals try dsimp only
 all_goals try exact fin
 all_goals obtain⟨q0,q1,e⟩:=hk
 all_goals (try rw [Qx,EA] at h)
 all_goals (try rw [Rh] at *)
 all_goals have hp:(s.length:Int)≤274877906944:=hp
 ·rw [e,dc q0 (ah ‹_›) 0,smS,List.all_cons,h];rfl
 ·have h2:k<(s.length:Int):=ah ‹_›
  refine⟨by show 0≤k+1;omega,by show k+1≤(s.length:Int);omega,?_⟩
  rw [e,dc q0 h2 0,smS,List.all_cons,h];rfl
 ·rw [e,dn (ao ‹_›)];rfl
def jY (p:Pr):aa:=fsp (a1 aS) (fun s=>p.ltM (p.lenS s)) (fun s=>.b (bT s))
theorem uJ:FOk Tryz.prog 246 (jY std):=by
 refine FOk.go (c:=cx std [(245,fl std)] [] 0) (ae (.cons oT .nil) .nil) mixed Tryz.func246 rfl rfl rfl (by kernel_rfl) ?_
 rintro s hp
 refine⟨rfl,?_⟩
 unfold fl
 generalize hP:std=p,hB0:bT=B0,hB1:smS=B1
 cbv
 repeat' first|refine fun (_:Unit)=>?_;cbv|refine aI2 (fun h=>?_) (fun h=>?_)<;>cbv|refine aI2 ?_ ?_|refine Or.inl (fun (_:Unit)=>?_);cbv
 all_goals subst hP hB0 hB1
 all_goals try exact fin
 ·unfold bT inR smS;simp at *;intros;omega
 all_goals (unfold bT inR;simp at *;intros;omega)
def oS (p:Pr):aa:=fsp (a1 aS) (fun s=>p.ltM (p.lenS s)) (fun s=>.b (ik s))
theorem CM:FOk Tryz.prog 178 (oS std):=by
 refine FOk.go (c:=cx std [(246,jY std)] [] 0) (ae (.cons uJ .nil) .nil) mixed Tryz.func178 rfl rfl rfl (by kernel_rfl) ?_
 rintro s hp
 refine⟨rfl,?_⟩
 unfold jY
 generalize hP:std=p,hB0:ik=B0,hB1:bT=B1
 cbv
 repeat' first|refine fun (_:Unit)=>?_;cbv|refine aI2 (fun h=>?_) (fun h=>?_)<;>cbv|refine aI2 ?_ ?_|refine Or.inl (fun (_:Unit)=>?_);cbv
 all_goals subst hP hB0 hB1
 all_goals try exact fin
 all_goals (unfold ik;simp at *;try (intros;omega))
def o9 (p:Pr):aa:=fsp (a1 aS) (fun s=>p.ltM (p.lenS s)) (fun s=>.b (yr s))
theorem Cu:FOk Tryz.prog 176 (o9 std):=by
 refine FOk.go (c:=cx std [(245,fl std)] [] 0) (ae (.cons oT .nil) .nil) mixed Tryz.func176 rfl rfl rfl (by kernel_rfl) ?_
 rintro s hp
 refine⟨rfl,?_⟩
 unfold fl
 obtain⟨H,hH⟩ : ∃H:Hd (Int),H=⟨fun k=>1≤k∧yr s=(m7 (fun a b=>decide (a.toNat<b.toNat)) (s.drop (k-1).toNat)&&smS s),fun k=>(s.length-k).toNat,(· < ·)⟩:=⟨_,rfl⟩
 have hl:=hdl hH
 generalize hP:std=p,hB0:yr=B0,hB1:smS=B1
 cbv
 repeat' first|refine fun (_:Unit)=>?_;cbv|refine Or.inr ⟨4,[],[.s 3 (.i .i64)],[],[],H,rfl,hl,?_,fun (k:Int) hk=>?_⟩<;>cbv|refine aI2 (fun h=>?_) (fun h=>?_)<;>cbv|refine aI2 ?_ ?_
 all_goals subst hP hB0 hB1 hH
 all_goals clear hl
 all_goals try dsimp only at hk
 all_goals try dsimp only
 all_goals try exact fin
 ·exact⟨Int.le_refl 1,rfl⟩
 ·obtain⟨q0,e⟩:=hk
  rw [e,mY q0 (ah ‹_›) 0]
  have h3:decide ((s.getD (k-1).toNat 0).toNat < (s.getD k.toNat 0).toNat)=false:=by simp [std] at h ⊢;omega
  rw [h3];rfl
 ·obtain⟨q0,e⟩:=hk
  refine⟨by show 1≤k+1;omega,?_⟩
  rw [e,mY q0 (ah ‹_›) 0]
  have h3:decide ((s.getD (k-1).toNat 0).toNat < (s.getD k.toNat 0).toNat)=true:=by simp [std] at h ⊢;omega
  rw [h3];rfl
 ·obtain⟨q0,e⟩:=hk
  rw [e,BW (ao h)];rfl
def gH (p:Pr):aa:=fsp (a1 aC) (fun c=>p.inK .u8 c) (fun c=>.i .i64 (dQ c))
theorem rg:FOk Tryz.prog 189 (gH std):=by
 refine FOk.go (c:=cx std [(248,gO std)] [] 0) (ae (.cons ru .nil) .nil) mixed Tryz.func189 rfl rfl rfl (by kernel_rfl) ?_
 rintro c hp
 refine⟨rfl,?_⟩
 unfold gO
 generalize hP:std=p,hB0:dQ=B0,hB1:inR=B1
 cbv
 repeat' first|refine fun (_:Unit)=>?_;cbv|refine aI2 (fun h=>?_) (fun h=>?_)<;>cbv|refine aI2 ?_ ?_|refine Or.inl (fun (_:Unit)=>?_);cbv
 all_goals subst hP hB0 hB1
 all_goals try exact fin
 ·have : c=63:=by simpa using h
  rw [this];rfl
 ·unfold inR at h
  simp at h hp
  exact⟨by show 0≤c-97;omega,by show c-97≤255;omega⟩
 ·have h2 : ¬c=63:=by simpa using ‹std.eqI c 63=false›
  unfold dQ
  rw [if_neg h2,if_pos h];show c-97+1=c-96;omega
 ·have h2 : ¬c=63:=by simpa using ‹std.eqI c 63=false›
  unfold dQ
  rw [if_neg h2,h];rfl
def fE (p:Pr):aa:=fsp (a1 aS) (fun s=>p.ltM (p.lenS s)) (fun s=>.b (tiS s))
theorem pb:FOk Tryz.prog 163 (fE std):=by
 refine FOk.go (c:=cx std [(189,gH std)] [] 0) (ae (.cons rg .nil) .nil) mixed Tryz.func163 rfl rfl rfl (by kernel_rfl) ?_
 rintro s hp
 refine⟨rfl,?_⟩
 unfold gH
 obtain⟨H,hH⟩ : ∃H:Hd (Int),H=⟨fun k=>0≤k∧k≤s.length∧tiS s=tiS (s.drop k.toNat),fun k=>(s.length-k).toNat,(· < ·)⟩:=⟨_,rfl⟩
 have hl:=hdl hH
 generalize hP:std=p,hB0:tiS=B0,hB1:dQ=B1
 cbv
 repeat' first|refine fun (_:Unit)=>?_;cbv|refine Or.inr ⟨4,[],[.s 3 (.i .i64)],[],[],H,rfl,hl,?_,fun (k:Int) hk=>?_⟩<;>cbv|refine aI2 (fun h=>?_) (fun h=>?_)<;>cbv|refine aI2 ?_ ?_
 all_goals subst hP hB0 hB1 hH
 all_goals clear hl
 all_goals try dsimp only at hk
 all_goals try dsimp only
 all_goals try exact fin
 all_goals obtain⟨q0,q1,e⟩:=hk
 ·rw [e,dc q0 (ah ‹_›) 0,tiS,List.all_cons,Q5 h];rfl
 ·have h2:k<(s.length:Int):=ah ‹_›
  refine⟨by show 0≤k+1;omega,by show k+1≤(s.length:Int);omega,?_⟩
  rw [e,dc q0 h2 0,tiS,List.all_cons,No h];rfl
 ·rw [e,dn (ao ‹_›)];rfl
def Ng (s:List UInt8) (k:Int):Bool:=m7 leB (s.drop (k-1).toNat)
theorem Gw (s:List UInt8) (j k:Int):leB (s.getD j.toNat 0) (s.getD k.toNat 0)=!std.ltI (std.byte s k) (std.byte s j):=by
 unfold leB
 rw [Bool.eq_iff_iff]
 simp [std]
def lM (p:Pr):aa:=fsp (a1 aS) (fun s=>p.ltM (p.lenS s)) (fun s=>.b (cu s))
theorem xR:FOk Tryz.prog 92 (lM std):=by
 refine FOk.go (c:=cx std [(163,fE std)] [] 0) (ae (.cons pb .nil) .nil) mixed Tryz.func92 rfl rfl rfl (by kernel_rfl) ?_
 rintro s hp
 refine⟨rfl,?_⟩
 unfold fE
 obtain⟨H,hH⟩ : ∃H:Hd (Int),H=⟨fun k=>1≤k∧cu s=Ng s k,fun k=>(s.length-k).toNat,(· < ·)⟩:=⟨_,rfl⟩
 have hl:=hdl hH
 generalize hP:std=p,hB0:cu=B0,hB1:tiS=B1
 cbv
 repeat' first|refine fun (_:Unit)=>?_;cbv|refine Or.inr ⟨12,[],[.s 3 (.i .i64)],[],[],H,rfl,hl,?_,fun (k:Int) hk=>?_⟩<;>cbv|refine aI2 (fun h=>?_) (fun h=>?_)<;>cbv|refine aI2 ?_ ?_
 all_goals subst hP hB0 hB1 hH
 all_goals clear hl
 all_goals try dsimp only at hk
 all_goals try dsimp only
 all_goals try exact fin
 ·rw [wO,show s.all aK=false by assumption,Bool.false_and,Bool.and_false]
 ·refine⟨Int.le_refl 1,?_⟩
  have h1:(s.length:Int)≤120:=ao ‹_›
  rw [wO,show s.all aK=true by assumption,decide_eq_true (by omega)];rfl
 ·obtain⟨q0,e⟩:=hk
  rw [e,Ng,mY q0 (ah ‹_›) 0,Gw,show std.ltI (std.byte s k) (std.byte s (k-1))=true by assumption];rfl
 ·obtain⟨q0,e⟩:=hk
  refine⟨by show 1≤k+1;omega,?_⟩
  rw [e,Ng,mY q0 (ah ‹_›) 0,Gw,show std.ltI (std.byte s k) (std.byte s (k-1))=false by assumption];rfl
 ·obtain⟨q0,e⟩:=hk
  rw [e,Ng,BW (ao ‹_›)]
 ·rw [wO];simp at *;intros;omega
def lB (p:Pr):aa:=fsp (a1 aS) (fun s=>p.ltM (p.lenS s)) (fun s=>.b (aM s))
theorem wL:FOk Tryz.prog 84 (lB std):=by
 refine FOk.go (c:=cx std [(92,lM std)] [] 0) (ae (.cons xR .nil) .nil) mixed Tryz.func84 rfl rfl rfl (by kernel_rfl) ?_
 rintro s hp
 refine⟨rfl,?_⟩
 unfold lM
 generalize hP:std=p,hB0:aM=B0,hB1:cu=B1
 cbv
 repeat' first|refine fun (_:Unit)=>?_;cbv|refine aI2 (fun h=>?_) (fun h=>?_)<;>cbv|refine aI2 ?_ ?_|refine Or.inl (fun (_:Unit)=>?_);cbv
 all_goals subst hP hB0 hB1
 all_goals try exact fin
 all_goals (unfold aM;simp at *;intros;first | omega | simp_all)
def gr (p:Pr):aa:=fsp (a1 aS) (fun s=>p.ltM (p.lenS s)) (fun s=>.b (bL s))
theorem qO:FOk Tryz.prog 68 (gr std):=by
 refine FOk.go (c:=cx std [(163,fE std)] [] 0) (ae (.cons pb .nil) .nil) mixed Tryz.func68 rfl rfl rfl (by kernel_rfl) ?_
 rintro s hp
 refine⟨rfl,?_⟩
 unfold fE
 generalize hP:std=p,hB0:bL=B0,hB1:tiS=B1
 cbv
 repeat' first|refine fun (_:Unit)=>?_;cbv|refine aI2 (fun h=>?_) (fun h=>?_)<;>cbv|refine aI2 ?_ ?_|refine Or.inl (fun (_:Unit)=>?_);cbv
 all_goals subst hP hB0 hB1
 all_goals try exact fin
 ·have h1:s.length≤120:=by simp at h;omega
  unfold bL;rw [decide_eq_true h1,Bool.and_true];rfl
 ·have h1 : ¬s.length≤120:=by simp at h;omega
  unfold bL;rw [decide_eq_false h1,Bool.and_false]
def M4 (ws:List (List UInt8)) (k:Int):Bool:=m7 sLt (ws.drop (k-1).toNat)
def kj (p:Pr):aa:=fsp (a1 aW) (fun ws=>p.ltM (p.len ws)) (fun ws=>.b (mR ws))
theorem vH:FOk Tryz.prog 177 (kj std):=by
 refine FOk.go (c:=cx std [] [] 0) (ae .nil .nil) mixed Tryz.func177 rfl rfl rfl (by kernel_rfl) ?_
 rintro ws hp
 refine⟨rfl,?_⟩
 obtain⟨H,hH⟩ : ∃H:Hd (Int),H=⟨fun k=>1≤k∧mR ws=M4 ws k,fun k=>(ws.length-k).toNat,(· < ·)⟩:=⟨_,rfl⟩
 have hl:=hdl hH
 generalize hP:std=p,hB0:mR=B0
 cbv
 repeat' first|refine fun (_:Unit)=>?_;cbv|refine Or.inr ⟨4,[],[.s 3 (.i .i64)],[],[],H,rfl,hl,?_,fun (k:Int) hk=>?_⟩<;>cbv|refine aI2 (fun h=>?_) (fun h=>?_)<;>cbv|refine aI2 ?_ ?_
 all_goals subst hP hB0 hH
 all_goals clear hl
 all_goals try dsimp only at hk
 all_goals try dsimp only
 all_goals try exact fin
 ·exact⟨Int.le_refl 1,by rw [wy];rfl⟩
 ·obtain⟨q0,e⟩:=hk
  have h3:sLt (ws.getD (k-1).toNat []) (ws.getD k.toNat [])=false:=by simpa [std,sLt] using h
  rw [e,M4,mY q0 (ah ‹_›) [],h3];rfl
 ·obtain⟨q0,e⟩:=hk
  have h3:sLt (ws.getD (k-1).toNat []) (ws.getD k.toNat [])=true:=by simpa [std,sLt] using h
  refine⟨by show 1≤k+1;omega,?_⟩
  rw [e,M4,mY q0 (ah ‹_›) [],h3];rfl
 ·obtain⟨q0,e⟩:=hk
  rw [e,M4,BW (ao ‹_›)]
def loS (ws:List (List UInt8)) (k:Int):Bool:=(ws.drop k.toNat).all ik
theorem A0 (ws:List (List UInt8)):lexB ws=(mR ws&&ws.all ik&&decide (ws.length≤200)):=by
 unfold lexB
 rw [GI,wy]
structure WsL (ws:List (List UInt8)):Prop where
 n:ws.length≤274877906944
 w : ∀k:Int,(ws.getD k.toNat []).length ≤274877906944
def dO (p:Pr):aa:=fsp (a1 (aA wN)) (fun ws=>WsL ws) (fun ws=>.b (lexB ws))
theorem lT:FOk Tryz.prog 80 (dO std):=by
 refine FOk.go (c:=cx std [(177,kj std),(178,oS std)] [] 0) (ae (.cons vH (.cons CM .nil)) .nil) mixed Tryz.func80 rfl rfl rfl (by kernel_rfl) ?_
 rintro ws hp
 refine⟨rfl,?_⟩
 unfold kj oS
 obtain⟨H,hH⟩ : ∃H:Hd (Int),H=⟨fun k=>0≤k∧k≤ws.length∧lexB ws=loS ws k,fun k=>(ws.length-k).toNat,(· < ·)⟩:=⟨_,rfl⟩
 have hl:=hdl hH
 generalize hP:std=p,hB0:lexB=B0,hB1:mR=B1,hB2:ik=B2
 cbv
 repeat' first|refine fun (_:Unit)=>?_;cbv|refine Or.inr ⟨19,[],[.s 18 (.i .i64)],[],[],H,rfl,hl,?_,fun (k:Int) hk=>?_⟩<;>cbv|refine aI2 (fun h=>?_) (fun h=>?_)<;>cbv|refine aI2 ?_ ?_
 all_goals subst hP hB0 hB1 hB2 hH
 all_goals clear hl
 all_goals try dsimp only at hk
 all_goals try dsimp only
 all_goals try exact fin
 ·rw [A0,show mR ws=false by assumption];rfl
 ·refine⟨Int.le_refl 0,Int.natCast_nonneg _,?_⟩
  have h1:(ws.length:Int)≤200:=ao ‹_›
  rw [A0,show mR ws=true by assumption,decide_eq_true (by omega),Bool.and_true];rfl
 ·exact aR (hp.w k)
 ·obtain⟨q0,q1,e⟩:=hk
  rw [e,loS,dc q0 (ah ‹_›) [],List.all_cons,show ik (ws.getD k.toNat [])=false by assumption];rfl
 ·obtain⟨q0,q1,e⟩:=hk
  have h2:k<(ws.length:Int):=ah ‹_›
  refine⟨by show 0≤k+1;omega,by show k+1≤(ws.length:Int);omega,?_⟩
  rw [e,loS,dc q0 h2 [],List.all_cons,show ik (ws.getD k.toNat [])=true by assumption];rfl
 ·obtain⟨q0,q1,e⟩:=hk
  rw [e,loS,dn (ao ‹_›)];rfl
 ·have h1 : ¬ws.length≤200:=by simp at h;omega
  rw [A0,decide_eq_false h1,Bool.and_false]
def H1 (c:Int):Bool:=c==46||(inR c 97 122||inR c 65 90)
def oL (p:Pr):aa:=fsp (a1 aC) (fun c=>p.inK .u8 c) (fun c=>.b (H1 c))
theorem CA:FOk Tryz.prog 182 (oL std):=by
 refine FOk.go (c:=cx std [(248,gO std),(188,iH std)] [] 0) (ae (.cons ru (.cons sZ .nil)) .nil) mixed Tryz.func182 rfl rfl rfl (by kernel_rfl) ?_
 rintro c hp
 refine⟨rfl,?_⟩
 unfold gO iH
 generalize hP:std=p,hB0:H1=B0,hB1:inR=B1
 cbv
 repeat' first|refine fun (_:Unit)=>?_;cbv|refine aI2 (fun h=>?_) (fun h=>?_)<;>cbv|refine aI2 ?_ ?_|refine Or.inl (fun (_:Unit)=>?_);cbv
 all_goals subst hP hB0 hB1
 all_goals try exact fin
 all_goals (unfold H1;simp at *;simp [*])
def J1 (c:Int):Bool:=decide (0≤dz [50,51,100,116,46] (u8 c))
def kU (p:Pr):aa:=fsp (a1 aC) (fun c=>p.inK .u8 c) (fun c=>.b (J1 c))
theorem wF:FOk Tryz.prog 181 (kU std):=by
 refine FOk.go (c:=cx std [(247,pL std)] [] 0) (ae (.cons CI .nil) .nil) mixed Tryz.func181 rfl rfl rfl (by kernel_rfl) ?_
 rintro c hp
 refine⟨rfl,?_⟩
 unfold pL
 generalize hP:std=p,hB0:J1=B0,hB1:dz=B1,hB2:u8=B2
 cbv
 repeat' first|refine fun (_:Unit)=>?_;cbv|refine aI2 (fun h=>?_) (fun h=>?_)<;>cbv|refine aI2 ?_ ?_|refine Or.inl (fun (_:Unit)=>?_);cbv
 all_goals subst hP hB0 hB1 hB2
 all_goals try exact fin
def aFn (f:FuncId):Arg Unit:=⟨fun | .fn g []=>if Nat.beq g f then some () else none | _=>none,fun _=>.fn f [],fun x a h=>by
 split at h
 ·split at h
  ·rename_i g hg
   rw [Nat.eq_of_beq_eq_true hg]
  ·cases h
 ·cases h⟩
theorem l2 {c:UInt8} {n:Int} {m:UInt8} (hm:(m.toNat:Int)=n):((c.toNat:Int)==n)=(c==m):=by
 subst hm
 rw [Bool.eq_iff_iff,beq_iff_eq,beq_iff_eq]
 constructor
 ·intro h;exact UInt8.toNat_inj.1 (by omega)
 ·rintro rfl;rfl
@[simp] theorem rq (c:UInt8):H1 (c.toNat:Int)=jc c:=by
 unfold H1 jc
 rw [show ((c.toNat:Int)==46)=(c==46) from l2 (m:=46) rfl,Bool.or_assoc]
 rfl
@[simp] theorem rb (c:UInt8):J1 (c.toNat:Int)=qV c:=by
 unfold J1
 rw [show u8 (c.toNat:Int)=c by simp [u8]]
 simp only [dz]
 unfold qV
 by_cases h1:c=50
 ·subst h1;rfl
 by_cases h2:c=51
 ·subst h2;rfl
 by_cases h3:c=100
 ·subst h3;rfl
 by_cases h4:c=116
 ·subst h4;rfl
 by_cases h5:c=46
 ·subst h5;rfl
 simp [h1,h2,h3,h4,h5,Ne.symm h1,Ne.symm h2,Ne.symm h3,Ne.symm h4,Ne.symm h5]
def alC (s:List UInt8):Bool:=s.all jc
def alP (s:List UInt8):Bool:=s.all qV
def AW (p:Pr):aa:=fsp (ac aS (a1 (aFn 182))) (fun (s,_u)=>p.ltM (p.lenS s)) (fun (s,_u)=>.b (alC s))
theorem Am:FOk Tryz.prog 180 (AW std):=by
 refine FOk.go (c:=cx std [(182,oL std)] [] 0) (ae (.cons CA .nil) .nil) mixed Tryz.func180 rfl rfl rfl (by kernel_rfl) ?_
 rintro ⟨s,_u⟩ hp
 dsimp only at hp
 refine⟨rfl,?_⟩
 unfold oL
 obtain⟨H,hH⟩ : ∃H:Hd (Int),H=⟨fun k=>0≤k∧k≤s.length∧alC s=alC (s.drop k.toNat),fun k=>(s.length-k).toNat,(· < ·)⟩:=⟨_,rfl⟩
 have hl:=hdl hH
 generalize hP:std=p,hB0:alC=B0,hB1:H1=B1
 cbv
 repeat' first|refine fun (_:Unit)=>?_;cbv|refine Or.inr ⟨6,[],[.s 5 (.i .i64)],[],[],H,rfl,hl,?_,fun (k:Int) hk=>?_⟩<;>cbv|refine aI2 (fun h=>?_) (fun h=>?_)<;>cbv|refine aI2 ?_ ?_
 all_goals subst hP hB0 hB1 hH
 all_goals clear hl
 all_goals try dsimp only at hk
 all_goals try dsimp only
 all_goals try exact fin
 all_goals try first
  | exact⟨Int.le_refl 0,Int.natCast_nonneg _,rfl⟩
  | (simp [alC,rq];done)
  | (obtain⟨q0,q1,e⟩:=hk;refine⟨by simp [std] at *;lia,by simp [std] at *;lia,?_⟩;rw [e,dc q0 (ah ‹_›) 0];clear e;simp_all [std,alC,rq];done)
  | (obtain⟨q0,q1,e⟩:=hk;refine⟨by simp [std] at *;lia,by simp [std] at *;lia,?_⟩;rw [e,dc q0 (ah ‹_›) 0];clear e;simp_all [std,alC,rq]<;>grind;done)
  | (obtain⟨q0,q1,e⟩:=hk;rw [e,dc q0 (ah ‹_›) 0];clear e;simp_all [std,alC,rq];done)
  | (obtain⟨q0,q1,e⟩:=hk;rw [e,dc q0 (ah ‹_›) 0];clear e;simp_all [std,alC,rq]<;>grind;done)
  | (obtain⟨q0,q1,e⟩:=hk;rw [e,dn (ao ‹_›)];clear e;simp_all [std,alC,rq];done)
  | (obtain⟨q0,q1,e⟩:=hk;rw [e,dn (ao ‹_›)];clear e;simp_all [std,alC,rq]<;>grind;done)
def AE (p:Pr):aa:=fsp (ac aS (a1 (aFn 181))) (fun (s,_u)=>p.ltM (p.lenS s)) (fun (s,_u)=>.b (alP s))
theorem Bj:FOk Tryz.prog 180 (AE std):=by
 refine FOk.go (c:=cx std [(181,kU std)] [] 0) (ae (.cons wF .nil) .nil) mixed Tryz.func180 rfl rfl rfl (by kernel_rfl) ?_
 rintro ⟨s,_u⟩ hp
 dsimp only at hp
 refine⟨rfl,?_⟩
 unfold kU
 obtain⟨H,hH⟩ : ∃H:Hd (Int),H=⟨fun k=>0≤k∧k≤s.length∧alP s=alP (s.drop k.toNat),fun k=>(s.length-k).toNat,(· < ·)⟩:=⟨_,rfl⟩
 have hl:=hdl hH
 generalize hP:std=p,hB0:alP=B0,hB1:J1=B1
 cbv
 repeat' first|refine fun (_:Unit)=>?_;cbv|refine Or.inr ⟨6,[],[.s 5 (.i .i64)],[],[],H,rfl,hl,?_,fun (k:Int) hk=>?_⟩<;>cbv|refine aI2 (fun h=>?_) (fun h=>?_)<;>cbv|refine aI2 ?_ ?_
 all_goals subst hP hB0 hB1 hH
 all_goals clear hl
 all_goals try dsimp only at hk
 all_goals try dsimp only
 all_goals try exact fin
 all_goals try first
  | exact⟨Int.le_refl 0,Int.natCast_nonneg _,rfl⟩
  | (simp [alP,rb];done)
  | (obtain⟨q0,q1,e⟩:=hk;refine⟨by simp [std] at *;lia,by simp [std] at *;lia,?_⟩;rw [e,dc q0 (ah ‹_›) 0];clear e;simp_all [std,alP,rb];done)
  | (obtain⟨q0,q1,e⟩:=hk;refine⟨by simp [std] at *;lia,by simp [std] at *;lia,?_⟩;rw [e,dc q0 (ah ‹_›) 0];clear e;simp_all [std,alP,rb]<;>grind;done)
  | (obtain⟨q0,q1,e⟩:=hk;rw [e,dc q0 (ah ‹_›) 0];clear e;simp_all [std,alP,rb];done)
  | (obtain⟨q0,q1,e⟩:=hk;rw [e,dc q0 (ah ‹_›) 0];clear e;simp_all [std,alP,rb]<;>grind;done)
  | (obtain⟨q0,q1,e⟩:=hk;rw [e,dn (ao ‹_›)];clear e;simp_all [std,alP,rb];done)
  | (obtain⟨q0,q1,e⟩:=hk;rw [e,dn (ao ‹_›)];clear e;simp_all [std,alP,rb]<;>grind;done)
def pH (p:Pr):aa:=aa.or (fsp (ac aS (a1 (aFn 181))) (fun (s,_)=>p.ltM (p.lenS s)) (fun (s,_)=>.b (alP s))) (fsp (ac aS (a1 (aFn 182))) (fun (s,_)=>p.ltM (p.lenS s)) (fun (s,_)=>.b (alC s)))
theorem DT:FOk Tryz.prog 180 (pH std):=FOk.or Bj Am
def pe (p:Pr):aa:=fsp (a1 aI) (fun n=>True) (fun n=>.b (pG n))
theorem Ec:FOk Tryz.prog 179 (pe std):=by
 refine FOk.go (c:=cx std [(83,bw std)] [] 0) (ae (.cons et .nil) .nil) mixed Tryz.func179 rfl rfl rfl (by kernel_rfl) ?_
 rintro n hp
 refine⟨rfl,?_⟩
 unfold bw
 generalize hP:std=p,hB0:pG=B0,hB1:inR=B1
 cbv
 repeat' first|refine fun (_:Unit)=>?_;cbv|refine aI2 (fun h=>?_) (fun h=>?_)<;>cbv|refine aI2 ?_ ?_|refine Or.inl (fun (_:Unit)=>?_);cbv
 all_goals subst hP hB0 hB1
 all_goals try exact fin
theorem I9 {n:Int} (h:pG n=true):5≤n∧n≤15:=by
 unfold pG inR at h
 simpa using h
theorem yp (b:Bd):bdB b=(pG b.size&&(decide ((b.prem.length:Int)=b.size*b.size)&&(decide ((b.cells.length:Int)=b.prem.length)&&(alP b.prem&&alC b.cells)))):=by
 unfold bdB alP alC
 by_cases h1:(b.prem.length:Int)=b.size*b.size
 ·by_cases h2:(b.cells.length:Int)=b.prem.length
  ·rw [kJ _ _ (by omega),decide_eq_true h1,decide_eq_true h2,decide_eq_true (show (b.cells.length:Int)=b.size*b.size by omega)]
  ·rw [decide_eq_false h2,decide_eq_false (show ¬(b.cells.length:Int)=b.size*b.size by omega)];simp
 ·rw [decide_eq_false h1];simp
def de (p:Pr):aa:=fsp (a1 (aA aBd)) (fun b=>BdP b) (fun b=>.b (bdB b))
theorem kf:FOk Tryz.prog 81 (de std):=by
 refine FOk.go (c:=cx std [(179,pe std),(180,pH std)] [] 0) (ae (.cons Ec (.cons DT .nil)) .nil) mixed Tryz.func81 rfl rfl rfl (by kernel_rfl) ?_
 rintro b hp
 refine⟨rfl,?_⟩
 unfold pe pH
 generalize hP:std=p,hB0:bdB=B0,hB1:pG=B1,hB2:alC=B2,hB3:alP=B3
 cbv
 repeat' first|refine fun (_:Unit)=>?_;cbv|refine aI2 (fun h=>?_) (fun h=>?_)<;>cbv|refine aI2 ?_ ?_|refine Or.inl (fun (_:Unit)=>?_);cbv
 all_goals subst hP hB0 hB1 hB2 hB3
 all_goals try exact fin
 ·have h1:=I9 (show pG b.size=true by assumption)
  have h2:b.size*b.size≤15*15:=Int.mul_le_mul h1.2 h1.2 (by omega) (by omega)
  have h3:0≤b.size*b.size:=Int.mul_nonneg (by omega) (by omega)
  exact an (by show _≤b.size*b.size∧b.size*b.size≤_;omega)
 ·rw [yp];simp at *;intros;simp_all
 ·exact aR hp.p
 ·exact aR hp.c
 ·show alC b.cells=_
  rw [yp];simp at *;simp [*]
 ·rw [yp];simp at *;intros;simp_all
 ·rw [yp];simp at *;simp [*]
 ·rw [yp];simp at *;simp [*]
def rI (p:Pr):aa:=fsp (a1 aS) (fun s=>p.leP (p.lenS s) 1073741824) (fun s=>.s (oM s))
theorem E3:FOk Tryz.prog 260 (rI std):=by
 refine FOk.go (c:=cx std [(303,lp std)] [] 0) (ae (.cons xq .nil) .nil) mixed Tryz.func260 rfl rfl rfl (by kernel_rfl) ?_
 rintro s hp
 refine⟨rfl,?_⟩
 unfold lp
 generalize hP:std=p,hB0:oM=B0
 cbv
 repeat' first|refine fun (_:Unit)=>?_;cbv|refine aI2 (fun h=>?_) (fun h=>?_)<;>cbv|refine aI2 ?_ ?_|refine Or.inl (fun (_:Unit)=>?_);cbv
 all_goals subst hP hB0
 all_goals try exact fin
theorem Kh {s:List UInt8} (h:std.leP (std.lenS s) 1073741824):(oM s).length ≤274877906944:=by
 have h1:=Pq _ s (Nat.le_refl _)
 have h2:(s.length:Int)≤1073741824:=h
 unfold oM
 omega
def ms (p:Pr):aa:=fsp (a1 aS) (fun s=>p.leP (p.lenS s) 1073741824) (fun s=>.b (cE s))
theorem yN:FOk Tryz.prog 301 (ms std):=by
 refine FOk.go (c:=cx std [(303,lp std),(246,jY std)] [] 0) (ae (.cons xq (.cons uJ .nil)) .nil) mixed Tryz.func301 rfl rfl rfl (by kernel_rfl) ?_
 rintro s hp
 refine⟨rfl,?_⟩
 unfold lp jY
 generalize hP:std=p,hB0:oM=B0,hB1:cE=B1,hB2:bT=B2
 cbv
 repeat' first|refine fun (_:Unit)=>?_;cbv|refine aI2 (fun h=>?_) (fun h=>?_)<;>cbv|refine aI2 ?_ ?_|refine Or.inl (fun (_:Unit)=>?_);cbv
 all_goals subst hP hB0 hB1 hB2
 all_goals try exact fin
 ·exact aR (Kh hp)
 ·rw [←wZ]
  show _=(bT (oM s)&&_)
  rw [show bT (oM s)=true by assumption,Bool.true_and,Bool.eq_iff_iff,decide_eq_true_eq]
  simp only [lu,gG,beq_iff_eq,Int.natCast_inj]
  rfl
 ·rw [←wZ]
  show (bT (oM s)&&_)=_
  rw [show bT (oM s)=false by assumption];rfl
def pd (p:Pr):aa:=fsp (a1 aS) (fun s=>p.leP (p.lenS s) 1073741824) (fun s=>.b (eJ s))
theorem CE:FOk Tryz.prog 256 (pd std):=by
 refine FOk.go (c:=cx std [(301,ms std)] [] 0) (ae (.cons yN .nil) .nil) mixed Tryz.func256 rfl rfl rfl (by kernel_rfl) ?_
 rintro s hp
 refine⟨rfl,?_⟩
 unfold ms
 generalize hP:std=p,hB0:eJ=B0,hB1:cE=B1
 cbv
 repeat' first|refine fun (_:Unit)=>?_;cbv|refine aI2 (fun h=>?_) (fun h=>?_)<;>cbv|refine aI2 ?_ ?_|refine Or.inl (fun (_:Unit)=>?_);cbv
 all_goals subst hP hB0 hB1
 all_goals try exact fin
 ·have h1:1<s.length:=by simp at h;omega
  unfold eJ;rw [decide_eq_true h1,Bool.true_and]
 ·have h1 : ¬1<s.length:=by simp at h;omega
  unfold eJ;rw [decide_eq_false h1,Bool.false_and]
def ed (p:Pr):aa:=fsp (ac (aA wN) (a1 aS)) (fun (ws,s)=>mR ws=true∧p.leP (p.len ws) 1073741824) (fun (ws,s)=>.b (hasB ws s))
theorem mL:FOk Tryz.prog 152 (ed std):=by
 refine FOk.go (c:=cx std [(228,uC std)] [] 0) (ae (.cons HS .nil) .nil) mixed Tryz.func152 rfl rfl rfl (by kernel_rfl) ?_
 rintro ⟨ws,s⟩ hp
 dsimp only at hp
 refine⟨rfl,?_⟩
 unfold uC
 generalize hP:std=p,hB0:hasB=B0,hB1:mR=B1,hB2:Mw=B2
 cbv
 repeat' first|refine fun (_:Unit)=>?_;cbv|refine aI2 (fun h=>?_) (fun h=>?_)<;>cbv|refine aI2 ?_ ?_|refine Or.inl (fun (_:Unit)=>?_);cbv
 all_goals subst hP hB0 hB1 hB2
 all_goals try exact fin
def aE:gi Unit:=a0
def aSq:gi (Int×Int):=ac aI (a1 aI)
def ii (b:Bd) (r c:Int):Int:=(b.cell r c).toNat
def m3 (b:Bd) (r c:Int):Int:=(b.prm r c).toNat
def srI (q:Pl) (n:Int):Int:=q.sr n
def scI (q:Pl) (n:Int):Int:=q.sc n
theorem LL {b:Bd} {r c:Int} (hf:b.Fit) (h:b.inB r c=true):(0≤r*b.size∧r*b.size≤225)∧(0≤r*b.size+c∧r*b.size+c<b.cells.length∧r*b.size+c<b.prem.length∧(b.cells.length:Int)≤225):=by
 have h1:=E1 ⟨hf,h⟩
 have h2:=hf.prem
 have h3:=hf.cells
 omega
def dK (p:Pr):aa:=fsp (ac (aA aBd) (ac aI (a1 aI))) (fun (b,r,c)=>b.Fit) (fun (b,r,c)=>.b (b.inB r c))
theorem lV:FOk Tryz.prog 257 (dK std):=by
 refine FOk.go (c:=cx std [(83,bw std)] [] 0) (ae (.cons et .nil) .nil) mixed Tryz.func257 rfl rfl rfl (by kernel_rfl) ?_
 rintro ⟨b,r,c⟩ hp
 dsimp only at hp
 refine⟨rfl,?_⟩
 unfold bw
 generalize hP:std=p,hB0:Bd.inB=B0,hB1:inR=B1
 cbv
 repeat' first|refine fun (_:Unit)=>?_;cbv|refine aI2 (fun h=>?_) (fun h=>?_)<;>cbv|refine aI2 ?_ ?_|refine Or.inl (fun (_:Unit)=>?_);cbv
 all_goals subst hP hB0 hB1
 all_goals try exact fin
 ·exact an (by have:=hp.lo;have:=hp.hi;show _≤b.size-1∧b.size-1≤_;omega)
 ·exact an (by have:=hp.lo;have:=hp.hi;show _≤b.size-1∧b.size-1≤_;omega)
 ·show inR c 0 (b.size-1)=_
  unfold Bd.inB;rw [show inR r 0 (b.size-1)=true from h];rfl
 ·unfold Bd.inB;rw [show inR r 0 (b.size-1)=false from h];rfl
def cj (p:Pr):aa:=fsp (ac (aA aBd) (ac aI (a1 aI))) (fun (b,r,c)=>b.Fit) (fun (b,r,c)=>.i .u8 (ii b r c))
theorem gF:FOk Tryz.prog 259 (cj std):=by
 refine FOk.go (c:=cx std [(257,dK std)] [] 0) (ae (.cons lV .nil) .nil) mixed Tryz.func259 rfl rfl rfl (by kernel_rfl) ?_
 rintro ⟨b,r,c⟩ hp
 dsimp only at hp
 refine⟨rfl,?_⟩
 unfold dK
 generalize hP:std=p,hB0:ii=B0,hB1:Bd.inB=B1
 cbv
 repeat' first|refine fun (_:Unit)=>?_;cbv|refine aI2 (fun h=>?_) (fun h=>?_)<;>cbv|refine aI2 ?_ ?_|refine Or.inl (fun (_:Unit)=>?_);cbv
 all_goals subst hP hB0 hB1
 all_goals try exact fin
 ·unfold ii Bd.cell;rw [if_neg (by rw [show b.inB r c=false from h];simp)];rfl
 all_goals have f:=LL hp (show b.inB r c=true from h)
 ·exact an (by show _≤r*b.size∧r*b.size≤_;omega)
 ·exact an (by show _≤r*b.size+c∧r*b.size+c≤_;omega)
 ·exact⟨f.2.1,f.2.2.1⟩
 ·unfold ii Bd.cell;rw [if_pos h];rfl
def cq (p:Pr):aa:=fsp (ac (aA aBd) (ac aI (a1 aI))) (fun (b,r,c)=>b.Fit∧b.inB r c=true) (fun (b,r,c)=>.i .u8 (m3 b r c))
theorem gK:FOk Tryz.prog 266 (cq std):=by
 refine FOk.go (c:=cx std [] [] 0) (ae .nil .nil) mixed Tryz.func266 rfl rfl rfl (by kernel_rfl) ?_
 rintro ⟨b,r,c⟩ hp
 dsimp only at hp
 refine⟨rfl,?_⟩
 generalize hP:std=p,hB0:m3=B0
 cbv
 repeat' first|refine fun (_:Unit)=>?_;cbv|refine aI2 (fun h=>?_) (fun h=>?_)<;>cbv|refine aI2 ?_ ?_|refine Or.inl (fun (_:Unit)=>?_);cbv
 all_goals subst hP hB0
 all_goals try exact fin
 all_goals have f:=LL hp.1 hp.2
 ·exact an (by show _≤r*b.size∧r*b.size≤_;omega)
 ·exact an (by show _≤r*b.size+c∧r*b.size+c≤_;omega)
 ·exact⟨f.2.1,f.2.2.2.1⟩
def iD (p:Pr):aa:=fsp (ac (aA aBd) (ac aI (a1 aI))) (fun (b,r,c)=>b.Fit) (fun (b,r,c)=>.b (b.let_ r c))
theorem rY:FOk Tryz.prog 302 (iD std):=by
 refine FOk.go (c:=cx std [(259,cj std)] [] 0) (ae (.cons gF .nil) .nil) mixed Tryz.func302 rfl rfl rfl (by kernel_rfl) ?_
 rintro ⟨b,r,c⟩ hp
 dsimp only at hp
 refine⟨rfl,?_⟩
 unfold cj
 generalize hP:std=p,hB0:ii=B0,hB1:Bd.let_=B1
 cbv
 repeat' first|refine fun (_:Unit)=>?_;cbv|refine aI2 (fun h=>?_) (fun h=>?_)<;>cbv|refine aI2 ?_ ?_|refine Or.inl (fun (_:Unit)=>?_);cbv
 all_goals subst hP hB0 hB1
 all_goals try exact fin
 ·have h1:ii b r c≠0:=by simpa using h
  have h2:(b.cell r c==0)=false:=by
   rw [←l2 (n:=0) (m:=0) rfl,beq_eq_false_iff_ne];exact h1
  show (match (ii b r c==46) with | true=>false | false=>true)=_
  unfold Bd.let_
  rw [h2,←l2 (c:=b.cell r c) (n:=46) (m:=46) rfl]
  show (match (ii b r c==46) with | true=>false | false=>true)=(!false&&!(ii b r c==46))
  cases (ii b r c==46)<;>rfl
 ·have h1:ii b r c=0:=by simpa using h
  have h2:(b.cell r c==0)=true:=by
   rw [←l2 (n:=0) (m:=0) rfl,beq_iff_eq];exact h1
  unfold Bd.let_
  rw [h2];rfl
def cQ (p:Pr):aa:=fsp (ac (aA aBd) (a1 (aA aSq))) (fun (b,s)=>b.Fit) (fun (b,s)=>.b (b.let_ s.1 s.2))
theorem jO:FOk Tryz.prog 258 (cQ std):=by
 refine FOk.go (c:=cx std [(302,iD std)] [] 0) (ae (.cons rY .nil) .nil) mixed Tryz.func258 rfl rfl rfl (by kernel_rfl) ?_
 rintro ⟨b,s⟩ hp
 dsimp only at hp
 refine⟨rfl,?_⟩
 unfold iD
 generalize hP:std=p,hB0:Bd.let_=B0
 cbv
 repeat' first|refine fun (_:Unit)=>?_;cbv|refine aI2 (fun h=>?_) (fun h=>?_)<;>cbv|refine aI2 ?_ ?_|refine Or.inl (fun (_:Unit)=>?_);cbv
 all_goals subst hP hB0
 all_goals try exact fin
def gj (p:Pr):aa:=fsp (ac (aA aE) (ac aI (ac aI (a1 aI)))) (fun (_u,r,c,n)=>p.inK .i64 (p.add c n)) (fun (_u,r,c,n)=>.agg [.i .i64 r,.i .i64 (p.add c n)])
theorem qK:FOk Tryz.prog 364 (gj std):=by
 refine FOk.go (c:=cx std [] [] 0) (ae .nil .nil) mixed Tryz.func364 rfl rfl rfl (by kernel_rfl) ?_
 rintro ⟨_u,r,c,n⟩ hp
 dsimp only at hp
 refine⟨rfl,?_⟩
 generalize hP:std=p
 cbv
 repeat' first|refine fun (_:Unit)=>?_;cbv|refine aI2 (fun h=>?_) (fun h=>?_)<;>cbv|refine aI2 ?_ ?_|refine Or.inl (fun (_:Unit)=>?_);cbv
 all_goals subst hP
 all_goals try exact fin
def dH (p:Pr):aa:=fsp (ac (aA aE) (ac aI (ac aI (a1 aI)))) (fun (_u,r,c,n)=>p.inK .i64 (p.add r n)) (fun (_u,r,c,n)=>.agg [.i .i64 (p.add r n),.i .i64 c])
theorem lR:FOk Tryz.prog 362 (dH std):=by
 refine FOk.go (c:=cx std [] [] 0) (ae .nil .nil) mixed Tryz.func362 rfl rfl rfl (by kernel_rfl) ?_
 rintro ⟨_u,r,c,n⟩ hp
 dsimp only at hp
 refine⟨rfl,?_⟩
 generalize hP:std=p
 cbv
 repeat' first|refine fun (_:Unit)=>?_;cbv|refine aI2 (fun h=>?_) (fun h=>?_)<;>cbv|refine aI2 ?_ ?_|refine Or.inl (fun (_:Unit)=>?_);cbv
 all_goals subst hP
 all_goals try exact fin
def Md:Bool→PV
 | true=>.raw (.iface 289 (.agg ⟨[]⟩))
 | false=>.raw (.iface 290 (.agg ⟨[]⟩))
def jA (p:Pr):aa:=fsp (a1 (aA aE)) (fun _u=>True) (fun _u=>Md true)
theorem ub:FOk Tryz.prog 365 (jA std):=by
 refine FOk.go (c:=cx std [] [] 0) (ae .nil .nil) mixed Tryz.func365 rfl rfl rfl (by kernel_rfl) ?_
 rintro _u hp
 refine⟨rfl,?_⟩
 generalize hP:std=p
 cbv
 repeat' first|refine fun (_:Unit)=>?_;cbv|refine aI2 (fun h=>?_) (fun h=>?_)<;>cbv|refine aI2 ?_ ?_|refine Or.inl (fun (_:Unit)=>?_);cbv
 all_goals subst hP
 all_goals try exact fin
def fj (p:Pr):aa:=fsp (a1 (aA aE)) (fun _u=>True) (fun _u=>Md false)
theorem o5:FOk Tryz.prog 363 (fj std):=by
 refine FOk.go (c:=cx std [] [] 0) (ae .nil .nil) mixed Tryz.func363 rfl rfl rfl (by kernel_rfl) ?_
 rintro _u hp
 refine⟨rfl,?_⟩
 generalize hP:std=p
 cbv
 repeat' first|refine fun (_:Unit)=>?_;cbv|refine aI2 (fun h=>?_) (fun h=>?_)<;>cbv|refine aI2 ?_ ?_|refine Or.inl (fun (_:Unit)=>?_);cbv
 all_goals subst hP
 all_goals try exact fin
def ej (p:Pr):aa:=fsp (a1 aB) (fun d=>True) (fun d=>Md d)
theorem nh:FOk Tryz.prog 268 (ej std):=by
 refine FOk.go (c:=cx std [] [] 0) (ae .nil .nil) mixed Tryz.func268 rfl rfl rfl (by kernel_rfl) ?_
 rintro d hp
 cases d
 all_goals
  refine⟨rfl,?_⟩
  generalize hP:std=p
  cbv
  repeat' first|refine fun (_:Unit)=>?_;cbv|refine aI2 (fun h=>?_) (fun h=>?_)<;>cbv|refine aI2 ?_ ?_|refine Or.inl (fun (_:Unit)=>?_);cbv
 all_goals subst hP
 all_goals try exact fin
structure SqP (q:Pl) (n:Int):Prop where
 r:std.inK .i64 (q.row+n)
 c:std.inK .i64 (q.col+n)
def bS (p:Pr):aa:=fsp (ac (aA aPl) (a1 aI)) (fun (q,n)=>SqP q n) (fun (q,n)=>.agg [.i .i64 (srI q n),.i .i64 (scI q n)])
theorem fH:FOk Tryz.prog 211 (bS std):=by
 refine FOk.go (c:=cx std [(268,ej std),(364,gj std),(362,dH std)] [] 0) (ae (.cons nh (.cons qK (.cons lR .nil))) .nil) mixed Tryz.func211 rfl rfl rfl (by kernel_rfl) ?_
 rintro ⟨q,n⟩ hp
 dsimp only at hp
 obtain⟨row,col,dn,wd⟩:=q
 cases dn
 all_goals
  refine⟨rfl,?_⟩
  unfold ej gj dH
  generalize hP:std=p
  cbv
  repeat' first|refine fun (_:Unit)=>?_;cbv|refine aI2 (fun h=>?_) (fun h=>?_)<;>cbv|refine aI2 ?_ ?_|refine Or.inl (fun (_:Unit)=>?_);cbv
 all_goals subst hP
 all_goals try exact fin
 ·exact hp.c
 ·exact hp.r
theorem Ed (b:Bd) (q:Pl) (k:Nat):r8 b q (k+1)=(r8 b q k&&Cc b q k):=by
 unfold r8
 rw [List.range_succ,List.all_append]
 simp
theorem zq (b:Bd) (q:Pl) (k:Nat):tY b q (k+1)=(tY b q k||(m9 b q k==46)):=by
 unfold tY
 rw [List.range_succ,List.any_append]
 simp
theorem QM {b:Bd} {q:Pl} {k n:Nat} (h:Cc b q k=false) (hk:k<n):r8 b q n=false:=by
 unfold r8
 rw [List.all_eq_false]
 exact⟨k,List.mem_range.2 hk,by rw [h];simp⟩
theorem II (c d:UInt8):((c.toNat:Int)==(d.toNat:Int))=(c==d):=l2 rfl
theorem HC {s:List UInt8} (h:eJ s=true):2≤s.length∧s.length≤12:=by
 unfold eJ cE inR at h
 simp at h
 omega
theorem wE {b:Bd} (hf:b.Fit) {r c:Int} (h:b.inB r c=true):(0≤r∧r≤14)∧(0≤c∧c≤14):=by
 have h1:=cK.1 h
 have h2:=hf.hi
 omega
theorem ri {q:Pl} {n:Int} (h1 : -1000≤q.row∧q.row≤1000) (h2 : -1000≤q.col∧q.col≤1000) (h3 : -1000≤n∧n≤1000):SqP q n:=
 ⟨an (by omega),an (by omega)⟩
theorem si {k:Int} (h:0≤k):(std.add k 1).toNat =k.toNat+1:=by show (k+1).toNat =_;omega
theorem FZ {b:Bd} {q:Pl} {k:Int} (h:0≤k):ii b (srI q k) (scI q k)=((m9 b q k.toNat).toNat : Int):=by
 unfold ii srI scI m9
 rw [Int.toNat_of_nonneg h]
theorem Cd {b:Bd} {q:Pl} {k:Int} {x:Bool} (h0:0≤k) (h:std.eqI (ii b (srI q k) (scI q k)) 46=x):(m9 b q k.toNat==46)=x:=by
 rw [←h,FZ h0]
 exact (l2 (n:=46) (m:=46) rfl).symm
theorem Kq {b:Bd} {q:Pl} {k:Int} {x:Bool} (h0:0≤k) (h:std.eqI (ii b (srI q k) (scI q k)) (std.byte q.word k)=x):(m9 b q k.toNat==q.word.getD k.toNat 0)=x:=by
 rw [←h,FZ h0]
 exact (II _ _).symm
theorem Co {b:Bd} {q:Pl} (h1:eJ q.word=true) (h2:b.inB q.row q.col=true) (h3:b.inB (srI q (std.sub (std.lenS q.word) 1)) (scI q (std.sub (std.lenS q.word) 1))=true) (h4:b.let_ (srI q (-1)) (scI q (-1))=false) (h5:b.let_ (srI q (std.lenS q.word)) (scI q (std.lenS q.word))=false) :
 bs b q=(r8 b q q.word.length&&tY b q q.word.length):=by
 have h3:b.inB (q.sr ((q.word.length:Int)-1)) (q.sc ((q.word.length:Int)-1))=true:=h3
 have h4:b.let_ (q.sr (-1)) (q.sc (-1))=false:=h4
 have h5:b.let_ (q.sr q.word.length) (q.sc q.word.length)=false:=h5
 unfold bs
 rw [h1,h2,h3,h4,h5]
 simp
def iM (p:Pr):aa:=fsp (ac (aA aPl) (a1 (aA aBd))) (fun (q,b)=>b.Fit∧p.leP (p.lenS q.word) 1073741824) (fun (q,b)=>.b (bs b q))
theorem sj:FOk Tryz.prog 202 (iM std):=by
 refine FOk.go (c:=cx std [(256,pd std),(257,dK std),(211,bS std),(258,cQ std),(259,cj std)] [] 0) (ae (.cons CE (.cons lV (.cons fH (.cons jO (.cons gF .nil))))) .nil) mixed Tryz.func202 rfl rfl rfl (by kernel_rfl) ?_
 rintro ⟨q,b⟩ hp
 dsimp only at hp
 refine⟨rfl,?_⟩
 unfold pd dK bS cQ cj
 obtain⟨H,hH⟩ : ∃H:Hd (Int×Bool),H=⟨fun (k,fr)=>0≤k∧k≤q.word.length∧r8 b q k.toNat=true∧fr=tY b q k.toNat,fun (k,fr)=>(q.word.length-k).toNat,(· < ·)⟩:=⟨_,rfl⟩
 have hl:=hdl hH
 generalize hP:std=p,hB0:bs=B0,hB1:eJ=B1,hB2:Bd.inB=B2,hB3:Bd.let_=B3,hB4:srI=B4,hB5:scI=B5,hB6:ii=B6
 cbv
 repeat' first|refine fun (_:Unit)=>?_;cbv|refine Or.inr ⟨51,[],[.s 7 (.i .i64),.s 6 .b],[],[],H,rfl,hl,?_,fun ((k,fr):Int×Bool) hk=>?_⟩<;>cbv|refine aI2 (fun h=>?_) (fun h=>?_)<;>cbv|refine aI2 ?_ ?_
 all_goals subst hP hB0 hB1 hB2 hB3 hB4 hB5 hB6 hH
 all_goals clear hl
 all_goals try dsimp only at hk
 all_goals try dsimp only
 all_goals try exact fin
 all_goals (try simp only [eD,fV] at *)
 all_goals try (have hw:=HC (show eJ q.word=true by assumption))
 all_goals try (have hi:=wE hp.1 (show b.inB q.row q.col=true by assumption))
 ·unfold bs;simp [*]
 ·exact ri (by omega) (by omega) (by show _≤(q.word.length:Int)-1∧(q.word.length:Int)-1≤_;omega)
 ·exact ri (by omega) (by omega) (by omega)
 ·exact ri (by omega) (by omega) (by show _≤(q.word.length:Int)∧(q.word.length:Int)≤_;omega)
 ·unfold bs;simp only [srI,scI,An,gG] at *;simp [*]
 ·exact⟨Int.le_refl 0,Int.natCast_nonneg _,rfl,rfl⟩
 ·obtain⟨q0,q1, -, -⟩:=hk
  have q1:k≤(q.word.length:Int):=q1
  exact ri (by omega) (by omega) (by omega)
 all_goals try obtain⟨q0,q1,q2,q3⟩:=hk
 all_goals try (have q1:k≤(q.word.length:Int):=q1)
 all_goals try (have hlt:k<(q.word.length:Int):=ah ‹_›)
 ·refine⟨by show 0≤k+1;omega,by show k+1≤(q.word.length:Int);omega,?_⟩
  rw [si q0,Ed,zq,q2,Cd q0 h,Bool.or_true]
  refine⟨?_,rfl⟩
  unfold Cc;rw [Cd q0 h];rfl
 ·rw [Co ‹_› ‹_› ‹_› ‹_› ‹_›,QM (k:=k.toNat) ?_ (by omega),Bool.false_and]
  unfold Cc
  rw [Cd q0 (show std.eqI (ii b (srI q k) (scI q k)) 46=false by assumption),Kq q0 ‹_›];rfl
 ·refine⟨by show 0≤k+1;omega,by show k+1≤(q.word.length:Int);omega,?_⟩
  have hd:=Cd q0 (show std.eqI (ii b (srI q k) (scI q k)) 46=false by assumption)
  rw [si q0,Ed,zq,q2,hd,Bool.or_false]
  refine⟨?_,q3⟩
  unfold Cc
  rw [Kq q0 ‹_›,Bool.or_true];rfl
 ·have hge:=ao (show std.ltI k (std.lenS q.word)=false by assumption)
  have e:k.toNat=q.word.length:=by have : (q.word.length:Int)≤k:=hge;omega
  rw [Co ‹_› ‹_› ‹_› ‹_› ‹_›,q3,←e,q2];rfl
 ·unfold bs;simp only [srI,scI,An,gG] at *;simp [*]
 ·unfold bs;simp only [srI,scI,An,gG] at *;simp [*]
 ·unfold bs;rw [show eJ q.word=false by assumption];simp
def okI (b:Bd) (q:Pl):Bool:=bdB b&&bs b q
def ly (p:Pr):aa:=fsp (ac (aA aBd) (a1 (aA aPl))) (fun (b,q)=>BdP b∧p.leP (p.lenS q.word) 1073741824) (fun (b,q)=>.b (okI b q))
theorem wX:FOk Tryz.prog 134 (ly std):=by
 refine FOk.go (c:=cx std [(81,de std),(202,iM std)] [] 0) (ae (.cons kf (.cons sj .nil)) .nil) mixed Tryz.func134 rfl rfl rfl (by kernel_rfl) ?_
 rintro ⟨b,q⟩ hp
 dsimp only at hp
 refine⟨rfl,?_⟩
 unfold de iM
 generalize hP:std=p,hB0:okI=B0,hB1:bdB=B1,hB2:bs=B2
 cbv
 repeat' first|refine fun (_:Unit)=>?_;cbv|refine aI2 (fun h=>?_) (fun h=>?_)<;>cbv|refine aI2 ?_ ?_|refine Or.inl (fun (_:Unit)=>?_);cbv
 all_goals subst hP hB0 hB1 hB2
 all_goals try exact fin
 ·exact bdB.fit (show bdB b=true from h)
 ·unfold okI;rw [show bdB b=true from h,Bool.true_and]
 ·unfold okI;rw [show bdB b=false from h,Bool.false_and]
structure VP (b:Bd) (q:Pl):Prop where
 bd:bdB b=true
 fit:b.Fit
 on:OnQ b q
 lett:ei q.word=true
 lo:2≤q.word.length
 hi:q.word.length≤12
 r:0≤q.row∧q.row≤14
 c:0≤q.col∧q.col≤14
theorem VP.of {b:Bd} {q:Pl} (hb:bdB b=true) (h:bs b q=true):VP b q:=by
 have hf:=bdB.fit hb
 obtain⟨h1,h2,h3,h4⟩:=be h
 have h5:=h1 0 (by omega)
 have h6:q.sr ((0:Nat):Int)=q.row:=by unfold Pl.sr;split<;>simp
 have h7:q.sc ((0:Nat):Int)=q.col:=by unfold Pl.sc;split<;>simp
 rw [h6,h7] at h5
 exact⟨hb,hf,h1,h2,h3,h4,(wE hf h5).1,(wE hf h5).2⟩
theorem Ey {s:List UInt8} (h:ei s=true):std.asc s:=fun c hc=>by
 have:=List.all_eq_true.1 (lS h) c hc
 simpa using this
def Fa (b:Bd) (q:Pl) (k:Int):List (Int×Int):=sqL q (jS b q k.toNat)
def Fj (b:Bd) (q:Pl) (k:Int):List Int:=(jS b q k.toNat).map fun i:Nat=>(i:Int)
def nsI (b:Bd) (q:Pl):List (Int×Int):=sqL q (bC b q)
def npI (b:Bd) (q:Pl):List Int:=(bC b q).map fun i:Nat=>(i:Int)
theorem Kf {b:Bd} {q:Pl} {k:Nat} (h:b.let_ (q.sr k) (q.sc k)=false):jS b q (k+1)=jS b q k++[k]:=by
 unfold jS
 rw [List.range_succ,List.filter_append]
 simp [h]
theorem F3 {b:Bd} {q:Pl} {k:Nat} (h:b.let_ (q.sr k) (q.sc k)=true):jS b q (k+1)=jS b q k:=by
 unfold jS
 rw [List.range_succ,List.filter_append]
 simp [h]
def bD (p:Pr):aa:=fsp (ac (aA aBd) (a1 (aA aPl))) (fun (b,q)=>VP b q) (fun (b,q)=>.tup [.rsl [.i .i64,.i .i64] (nsI b q),.rsl [.i .i64] (npI b q)])
def sD (p:Pr):aa:=fsp (ac (aA aBd) (a1 (aA aPl))) (fun (b,q)=>VP b q) (fun (b,q)=>.tup [.osl 0,.osl 1]) (fun (b,q)=>[(0,.own [.i .i64,.i .i64] (nsI b q) 211),(1,.own [.i .i64] (npI b q) 3)])
theorem rU:FOk Tryz.prog 203 (sD std):=by
 refine FOk.go (c:=cx std [(211,bS std),(258,cQ std)] [] 0) (ae (.cons fH (.cons jO .nil)) .nil) mixed Tryz.func203 rfl rfl rfl (by kernel_rfl) ?_
 rintro ⟨b,q⟩ hp
 dsimp only at hp
 refine⟨rfl,?_⟩
 unfold bS cQ
 obtain⟨H,hH⟩ : ∃H:Hd (Int×List (Int×Int)×List Int),H=⟨fun (k,S,P)=>0≤k∧k≤q.word.length∧S=Fa b q k∧P=Fj b q k,fun (k,S,P)=>(q.word.length-k).toNat,(· < ·)⟩:=⟨_,rfl⟩
 have hl:=hdl hH
 generalize hP:std=p,hB0:nsI=B0,hB1:npI=B1,hB2:Bd.let_=B2,hB3:srI=B3,hB4:scI=B4
 cbv
 repeat' first|refine fun (_:Unit)=>?_;cbv|refine Or.inr ⟨15,[],[.c 4 0 (.i .i64),.o 2 [.i .i64,.i .i64],.o 3 [.i .i64]],[.s 6,.s 7],[],H,rfl,hl,?_,fun ((k,S,P):Int×List (Int×Int)×List Int) hk=>?_⟩<;>cbv|refine aI2 (fun h=>?_) (fun h=>?_)<;>cbv|refine aI2 ?_ ?_
 all_goals subst hP hB0 hB1 hB2 hB3 hB4 hH
 all_goals clear hl
 all_goals try dsimp only at hk
 all_goals try dsimp only
 all_goals try exact fin
 ·exact Ey hp.lett
 ·exact⟨Int.le_refl 0,Int.natCast_nonneg _,rfl,rfl⟩
 all_goals obtain⟨q0,q1,rfl,rfl⟩:=hk
 all_goals have q1:k≤(q.word.length:Int):=q1
 all_goals have a1:=hp.r
 all_goals have a2:=hp.c
 all_goals have a3:=hp.hi
 all_goals have a4:=cF b q k.toNat
 all_goals try (have hlt:k<(q.word.length:Int):=ah ‹_›)
 ·show SqP q k;exact ri (by omega) (by omega) (by omega)
 ·show ((Fa b q k).length : Int)+1≤_
  unfold Fa sqL;rw [List.length_map];omega
 ·show ((Fj b q k).length : Int)+1≤_
  unfold Fj;rw [List.length_map];omega
 ·refine⟨by show 0≤k+1;omega,by show k+1≤(q.word.length:Int);omega,?_,?_⟩
  ·show Fa b q k++[(q.sr k,q.sc k)]=_
   unfold Fa
   rw [si q0,Kf (by rw [Int.toNat_of_nonneg q0];assumption)]
   simp [sqL,Int.toNat_of_nonneg q0]
  ·show Fj b q k++[k]=_
   unfold Fj
   rw [si q0,Kf (by rw [Int.toNat_of_nonneg q0];assumption)]
   simp [Int.toNat_of_nonneg q0]
 ·refine⟨by show 0≤k+1;omega,by show k+1≤(q.word.length:Int);omega,?_,?_⟩
  ·unfold Fa;rw [si q0,F3 (by rw [Int.toNat_of_nonneg q0];assumption)]
  ·unfold Fj;rw [si q0,F3 (by rw [Int.toNat_of_nonneg q0];assumption)]
 all_goals
  have hge:(q.word.length:Int)≤k:=ao ‹_›
  have e:k.toNat=q.word.length:=by omega
 ·unfold Fa;rw [e];rfl
 ·unfold Fj;rw [e];rfl
theorem eL:FOk Tryz.prog 203 (bD std):=FOk.frz rU fun ⟨b,q⟩=>⟨by simp [deep,eK,AH.get],by simp [PV.idIn,cP]⟩
theorem xk (b:Bd) (q:Pl) (k:Nat):ca b q (k+1)=(ca b q k).set (idxOf b q k) (q.word.getD k 0):=by
 unfold ca
 rw [List.range_succ,List.foldl_append]
 rfl
theorem fA (b:Bd) (q:Pl) : ∀k,(ca b q k).length =b.cells.length
 | 0=>rfl
 | k+1=>by rw [xk,List.length_set,fA b q k]
def fJ (p:Pr):aa:=fsp (ac (aA aBd) (a1 (aA aPl))) (fun (b,q)=>VP b q) (fun (b,q)=>.agg [.i .i64 (ar b q).size,.s (ar b q).prem,.s (ar b q).cells])
theorem qd:FOk Tryz.prog 119 (fJ std):=by
 refine FOk.go (c:=cx std [(211,bS std)] [] 0) (ae (.cons fH .nil) .nil) mixed Tryz.func119 rfl rfl rfl (by kernel_rfl) ?_
 rintro ⟨b,q⟩ hp
 dsimp only at hp
 refine⟨rfl,?_⟩
 unfold bS
 obtain⟨H,hH⟩ : ∃H:Hd (Int×List Int),H=⟨fun (k,L)=>0≤k∧k≤q.word.length∧L=aq (ca b q k.toNat),fun (k,L)=>(q.word.length-k).toNat,(· < ·)⟩:=⟨_,rfl⟩
 have hl:=hdl hH
 generalize hP:std=p,hB0:ar=B0,hB1:srI=B1,hB2:scI=B2
 cbv
 repeat' first|refine fun (_:Unit)=>?_;cbv|refine Or.inr ⟨14,[],[.c 4 0 (.i .i64),.o 3 [.i .u8]],[],[],H,rfl,hl,?_,fun ((k,L):Int×List Int) hk=>?_⟩<;>cbv|refine aI2 (fun h=>?_) (fun h=>?_)<;>cbv|refine aI2 ?_ ?_
 all_goals subst hP hB0 hB1 hB2 hH
 all_goals clear hl
 all_goals try dsimp only at hk
 all_goals try dsimp only
 all_goals try exact fin
 ·exact Ey hp.lett
 ·exact⟨Int.le_refl 0,Int.natCast_nonneg _,rfl⟩
 all_goals obtain⟨q0,q1,rfl⟩:=hk
 all_goals have q1:k≤(q.word.length:Int):=q1
 all_goals have a1:=hp.r
 all_goals have a2:=hp.c
 all_goals have a3:=hp.hi
 all_goals have a4:=fA b q k.toNat
 all_goals try (have hlt:k<(q.word.length:Int):=ah ‹_›)
 all_goals try (have hix:=LL hp.fit (hp.on k.toNat (by omega));rw [Int.toNat_of_nonneg q0] at hix)
 ·show SqP q k;exact ri (by omega) (by omega) (by omega)
 ·exact an (by show _≤q.sr k*b.size∧q.sr k*b.size≤_;omega)
 ·exact an (by show _≤q.sr k*b.size+q.sc k∧q.sr k*b.size+q.sc k≤_;omega)
 ·refine⟨hix.2.1,?_⟩
  show q.sr k*b.size+q.sc k<((aq (ca b q k.toNat)).length : Int)
  rw [bu];omega
 ·refine⟨hix.2.1,?_⟩
  show q.sr k*b.size+q.sc k<((aq (ca b q k.toNat)).length : Int)
  rw [bu];omega
 ·refine⟨by show 0≤k+1;omega,by show k+1≤(q.word.length:Int);omega,?_⟩
  show (aq (ca b q k.toNat)).set (q.sr k*b.size+q.sc k).toNat (((q.word.getD k.toNat 0).toNat : Nat):Int)=_
  rw [kI,si q0,xk]
  unfold idxOf
  rw [Int.toNat_of_nonneg q0]
 ·have hge:(q.word.length:Int)≤k:=ao ‹_›
  have e:k.toNat=q.word.length:=by omega
  show fZ (aq (ca b q k.toNat))=ca b q q.word.length
  rw [cJ,e]
end Ax
end Go.Proofs.YtjjonmhpgkahoaaGreatDoor
