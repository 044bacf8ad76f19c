/-
  What the library's variables hold, in every world that grows out of the start world; A region that draws its order: the operations ahead of number n each yield one value in every world that meets S, and S holds behind each; the rest stands in a forced order. Then the text's order serves for all orders; Words for memory and small facts that the walks of this family share: slices that read as lists, blocks known whole, strings as lists of bytes; The plain walker: each operation does what its plain reading says; The plain walker: arithmetic and comparisons; The plain walker: loads, stores, parts of structs.
  Conditions: none; the closed check regCk of the region's own edges.
-/
import Derived.Shelf.Strings.CaseAny
import Derived.Below
import Derived.OrdersHeld
import Derived.Tactics
import Derived.Test.YtjjonmhpgkahoaaGreatDoorProg
import Derived.WalkKit
import Derived.WalkSpells
import Derived.WalkLawsBesides
import Derived.Laws.OwnMore
import Derived.Deep.AppendLies
import Derived.Deep.Draws
import Derived.Maps.AppendAt
import Derived.Lib.Hide
import Derived.Test.YtjjonmhpgkahoaaGreatDoorE01
import Derived.Laws.Tables
import Derived.Laws.Rows
set_option linter.unusedSimpArgs false
set_option linter.unusedVariables false
namespace Go.Proofs.YtjjonmhpgkahoaaGreatDoor
namespace Ax
open Go.RowKit
def Gl (w:World):Prop:=(∃m:Int,w.cell? ⟨1,0,none⟩=some (.int .i64 m))∧(Lib.CaseVar 4 Lib.caseA w∧Lib.Utf8Tabs 2 3 w)
theorem Gl.below {w w':World} (h:Gl w) (hb:Below w.heap.size w w'):Gl w':=by
 obtain⟨⟨m,h1⟩,h2,h3⟩:=h
 refine⟨⟨m,by rw [hb.cell (World.block_lt_of_cell? w _ h1)];exact h1⟩,Lib.CaseVar_below h2 hb,fun c hc=>(hb.cell (World.block_lt_of_cell? w _ (h3.1 c hc))).trans (h3.1 c hc),fun i hi=>⟨(hb.cell (World.block_lt_of_cell? w _ (h3.2 i hi).1)).trans (h3.2 i hi).1,(hb.cell (World.block_lt_of_cell? w _ (h3.2 i hi).2)).trans (h3.2 i hi).2⟩⟩
def GOk (w:World) (fz:Nat→Prop):Prop:=∃w0,Gl w0∧(∀b,b<w0.heap.size→fz b)∧Below w0.heap.size w0 w
theorem GOk.gl {w:World} {fz:Nat→Prop} (h:GOk w fz):Gl w:=by
 obtain⟨w0,h1, -,h3⟩:=h
 exact h1.below h3
theorem GOk.mono {w:World} {fz fz':Nat→Prop} (h:GOk w fz) (hz : ∀b,fz b→fz' b):GOk w fz':=by
 obtain⟨w0,h1,h2,h3⟩:=h
 exact⟨w0,h1,fun b hb=>hz b (h2 b hb),h3⟩
structure FzW (w:World) (fz:Nat→Prop):Prop where
 lt : ∀b,fz b→b<w.heap.size
 gl:GOk w fz
instance {w:World} {fz:Nat→Prop} : CoeFun (FzW w fz) (fun _=>∀b,fz b→b<w.heap.size):=⟨FzW.lt⟩
end Ax
theorem qqS {α:Type} (l:List α) (i:Nat) (a:α):l.toArray.setIfInBounds i a=(l.set i a).toArray :=List.setIfInBounds_toArray l i a
theorem qqC {α:Type} {x:α} {xs:List α} {i:Nat} {a:α} : (x::xs).set (i+1) a=x::xs.set i a:=List.set_cons_succ
theorem qqZ {α:Type} {x:α} {xs:List α} {a:α} : (x::xs).set 0 a=a::xs:=List.set_cons_zero
theorem qqT {α:Type} {a:α} {l:List α} {i:Nat} : List.take (i+1) (a::l)=a::List.take i l:=List.take_succ_cons
theorem qqD {α:Type} {a:α} {l:List α} {i:Nat} : List.drop (i+1) (a::l)=List.drop i l:=List.drop_succ_cons
namespace RegP
section
variable {P:Program} {ops:Array Oper} {Q:Exit→Act→World→Prop} {S:World→Prop}
theorem put_get (a:Act) (d:Option Tmp) (v:Value) (t:Nat) :
 (a.put d v).tmps[t]? =if d=some t then a.tmps[t]?.map (fun _=>v) else a.tmps[t]? :=by
 cases d with
 | none=>simp [Act.put]
 | some e=>
   simp only [Act.put,Option.some.injEq]
   by_cases h:e=t
   ·subst h
    by_cases hl:e<a.tmps.size
    ·simp [hl]
    ·simp [hl]
   ·simp [Array.getElem?_setIfInBounds_ne h,h]
theorem put_size (a:Act) (d:Option Tmp) (v:Value):(a.put d v).tmps.size =a.tmps.size:=by cases d<;>simp [Act.put]
theorem put_defers' (a:Act) (d:Option Tmp) (v:Value):(a.put d v).defers =a.defers:=by cases d<;>rfl
def bindsOn (o:Oper):List Nat:=(o.after.toList.filter (Region.binds .any ·)).map (·.on)
def notSel (o:Oper):Bool:=match o.op with | .select _ _=>false | _=>true
theorem mem_bindsOn {o:Oper} {e:Nat} : e∈bindsOn o↔∃x∈o.after,Region.binds .any x=true∧x.on=e:=by
 simp [bindsOn,and_assoc]
theorem ready_iff {i:Nat} {listed:Array Bool} : i∈Region.ready .any ops listed↔listed.getD i true=false∧∃o,ops[i]? =some o∧∀e∈bindsOn o,listed.getD e false=true:=by
 rw [mem_ready]
 constructor
 ·rintro ⟨h0,o,ho,h⟩
  refine⟨h0,o,ho,fun e he=>?_⟩
  obtain⟨x,hx,hb,rfl⟩:=mem_bindsOn.1 he
  exact h x hx hb
 ·rintro ⟨h0,o,ho,h⟩
  exact⟨h0,o,ho,fun x hx hb=>h _ (mem_bindsOn.2 ⟨x,hx,hb,rfl⟩)⟩
def unl (listed:Array Bool) (n:Nat):Nat:=(List.range n).countP fun i=>!listed.getD i false
theorem unl_set {listed:Array Bool} {i:Nat} (hi:i<listed.size) (hu:listed.getD i false=false) : ∀n,i<n→unl (listed.setIfInBounds i true) n+1=unl listed n:=by
 intro n
 have same : ∀m,m≤i→unl (listed.setIfInBounds i true) m=unl listed m:=by
  intro m hm
  unfold unl
  refine List.countP_congr fun j hj=>?_
  rw [getD_set_ne false (by have:=List.mem_range.1 hj;omega)]
 induction n with
 | zero=>intro h;omega
 | succ n ih=>
   intro h
   unfold unl at *
   rw [List.range_succ,List.countP_append,List.countP_append]
   by_cases hin:i=n
   ·subst hin
    have:=same i (Nat.le_refl _)
    rw [this]
    simp only [List.countP_singleton]
    have h1:(listed.setIfInBounds i true).getD i false=true:=by simp [hi]
    simp [h1,hu]
   ·have:=ih (by omega)
    simp only [List.countP_singleton]
    rw [getD_set_ne false hin]
    omega
theorem unl_zero {listed:Array Bool} {n:Nat} (h:unl listed n=0) (i:Nat) (hi:i<n):listed.getD i false=true:=by
 unfold unl at h
 rw [List.countP_eq_zero] at h
 have:=h i (List.mem_range.2 hi)
 simpa using this
theorem unl_pos {listed:Array Bool} {n:Nat} (h:unl listed n≠0) : ∃i,i<n∧listed.getD i false=false∧∀j,j<i→listed.getD j false=true:=by
 induction n with
 | zero=>exact absurd rfl h
 | succ n ih=>
   by_cases h0:unl listed n=0
   ·refine⟨n,Nat.lt_succ_self _,?_,unl_zero h0⟩
    unfold unl at *
    rw [List.range_succ,List.countP_append,h0] at h
    simpa using h
   ·obtain⟨i,hi,h1,h2⟩:=ih h0
    exact⟨i,by omega,h1,h2⟩
end
end RegP
end Go.Proofs.YtjjonmhpgkahoaaGreatDoor
namespace Go.Proofs.YtjjonmhpgkahoaaGreatDoor
open Go.RowKit RegP
abbrev Str:=List UInt8
abbrev sv (l:Str):Value:=.string ⟨l.toArray⟩
abbrev bv (c:UInt8):Value:=.int .u8 (c.toNat:Int)
@[go_sem] theorem mk_getElem (l:List UInt8) (k:Nat) (h:k<(ByteArray.mk l.toArray).size):(ByteArray.mk l.toArray)[k]'h=l[k]'(by simpa [ByteArray.size] using h):=rfl
@[go_sem] theorem mk_extract (l:List UInt8) (a b:Nat):(ByteArray.mk l.toArray).extract a b=ByteArray.mk ((l.drop a).take (b-a)).toArray :=ByteArray.extract_mk l a b
@[go_sem] theorem mk_append (x y:List UInt8):(ByteArray.mk x.toArray++ByteArray.mk y.toArray)=ByteArray.mk (x++y).toArray :=ByteArray.mk_append_mk x y
theorem u8_lt (a:UInt8):0≤(a.toNat:Int)∧(a.toNat:Int)<256:=⟨by omega,by have:=a.toNat_lt;omega⟩
def Blk (w:World) (g:Nat) (t:TypeId) (cs:Array Value):Prop:=w.heap[g]? =some (.cells cs t (0,0))
section
variable {w w':World} {g:Nat} {t:TypeId} {cs:Array Value}
theorem Blk.lt (h:Blk w g t cs):g<w.heap.size:=by
 rcases Nat.lt_or_ge g w.heap.size with hlt | hge
 ·exact hlt
 ·unfold Blk at h;rw [Array.getElem?_eq_none hge] at h;cases h
theorem Blk.cell (h:Blk w g t cs) (i:Nat):w.cell? ⟨g,i,none⟩=cs[i]? :=cell_of_row w g i cs t (0,0) h
theorem Blk.frozen (h:Blk w g t cs) (i:Nat):w.frozen? ⟨g,i,none⟩=false:=by
 unfold Blk at h
 simp [World.frozen?,h]
theorem Blk.new (w:World) (t:TypeId) (cs:Array Value):Blk (w.alloc (.cells cs t)) w.heap.size t cs:=heap_alloc_new w _
theorem Blk.drew (h:Blk w g t cs):Blk w.drew g t cs:=h
theorem Blk.alloc (h:Blk w g t cs) (o:Obj):Blk (w.alloc o) g t cs:=(Below.heap_alloc w o g h.lt).trans h
theorem Blk.set_ (h:Blk w g t cs) (i:Nat) (u:Value):Blk (w.setCell ⟨g,i,none⟩ u) g t (cs.setIfInBounds i u):=by
 unfold Blk at h ⊢
 simp [World.setCell,Array.getElem?_modify,h]
theorem Blk.grown {row:Option Nat} (h:Blk w g t cs) (hb:w.grownBy w' row) (hg:some g≠row):Blk w' g t cs:=(hb.block g h.lt hg).trans h
theorem Blk.ne_ {g':Nat} {t':TypeId} {cs':Array Value} (h:Blk w g t cs) (h':Blk w g' t' cs') (hne:t≠t'):g≠g':=by
 rintro rfl
 unfold Blk at h h'
 rw [h] at h'
 injection h' with h'
 injection h' with _ ht
 exact hne ht
theorem own_blk_ne {base:Nat} {e:TypeId} {size n:Nat} {v:Value} {xs:List Value} (h:w.ownsRow base e size v n xs) (hg:Blk w g t cs) (hne:e≠t):v.ownBlock≠some g:=by
 rcases h.2 with ⟨rfl,_⟩ | ⟨g',cap,cur,rfl,_,hh,_⟩
 ·simp [Value.ownBlock]
 ·intro he
  have : g'=g:=by simpa [Value.ownBlock] using he
  subst this
  exact Blk.ne_ (t:=e) hh hg hne rfl
end
theorem block_of_add (a:Addr) (n:Nat):(a.add n).block =a.block:=by unfold Addr.add;split<;>rfl
def Reads (w:World) (B size:Nat) (A:Option Addr) (n:Nat) (xs:List Value):Prop:=
 xs.length=n*size∧(0<n→∃ad,A=some ad∧ad.block<B∧∀j u,xs[j]? =some u→w.cell? (ad.add j)=some u)
section
variable {w w':World} {B B' size n:Nat} {A:Option Addr} {xs:List Value}
theorem Reads.keep (h:Reads w B size A n xs) (hk : ∀p:Addr,p.block<B→w'.cell? p=w.cell? p):Reads w' B size A n xs:=
 ⟨h.1,fun hn=>by
   obtain⟨ad,e,hb,hc⟩:=h.2 hn
   exact⟨ad,e,hb,fun j u hu=>(hk _ (by rw [block_of_add];exact hb)).trans (hc j u hu)⟩⟩
theorem Reads.alloc (h:Reads w B size A n xs) (hB:B≤w.heap.size) (o:Obj):Reads (w.alloc o) B size A n xs:=h.keep fun p hp=>World.cell?_alloc_lt w o p (by omega)
theorem Reads.of_own {base:Nat} {e:TypeId} {c:Nat} (h:w.ownsRow base e size (.slice A n c) n xs):Reads w w.heap.size size A n xs:=by
 refine⟨h.1,fun hn=>?_⟩
 obtain⟨g,cap,hv,_,hlt⟩:=h.form hn
 have hA:A=some ⟨g,0,none⟩:=by injection hv
 subst hA
 exact⟨_,rfl,hlt,h.cells (g:=g) rfl⟩
end
end Go.Proofs.YtjjonmhpgkahoaaGreatDoor
namespace Go.Proofs.YtjjonmhpgkahoaaGreatDoor
namespace Ax
open Go.RowKit
def zOk:List PV→List Value→Bool
 | [],[]=>true
 | .i k n::ps,.int k' m::vs=>k==k'&&n==m&&zOk ps vs
 | .bf ::ps,.bool false::vs=>zOk ps vs
 | .s []::ps,.string ⟨⟨[]⟩⟩::vs=>zOk ps vs
 | .esl ::ps,.slice none 0 0::vs=>zOk ps vs
 | .nilp ::ps,.pointer none::vs=>zOk ps vs
 | _,_=>false
theorem zOk_Rs (w:World) (e:Env) : ∀(ps:List PV) (vs:List Value),zOk ps vs=true→Rs w e ps vs:=by
 intro ps
 induction ps with
 | nil=>intro vs h;cases vs with | nil=>unfold Rs;rfl | cons _ _=>simp [zOk] at h
 | cons p ps ih=>
   intro vs h
   unfold Rs
   unfold zOk at h
   split at h
   ·exact absurd ‹p::ps=[]› (by simp)
   ·rename_i k n ps' k' m vs' h1
    cases h1
    simp only [Bool.and_eq_true,beq_iff_eq] at h
    obtain⟨⟨rfl,rfl⟩,h⟩:=h
    exact⟨_,_,rfl,by unfold R;rfl,ih _ h⟩
   ·rename_i h1;cases h1;exact⟨_,_,rfl,by unfold R;rfl,ih _ h⟩
   ·rename_i h1;cases h1;exact⟨_,_,rfl,by unfold R;rfl,ih _ h⟩
   ·rename_i h1;cases h1;exact⟨_,_,rfl,by unfold R;rfl,ih _ h⟩
   ·rename_i h1;cases h1;exact⟨_,_,rfl,by unfold R;rfl,ih _ h⟩
   ·cases h
def aggD:TypeDesc→Bool
 | .struct _ | .array _ _=>true
 | _=>false
structure TyOk (P:Program) (t:TypeId) (ti:TI):Prop where
 info : ∃i,P.info? t=some i∧i.size=ti.n∧∃z,i.zero=some z∧zOk ti.z z.cells.toList=true
 byt : ∀i,P.info? t=some i→Nat.ble ti.n 40=true→i.bytes≤512
 und : ∃d,P.underlying t=some d∧aggD d=ti.agg∧
  match ti.d with
  | .int k=>d=.int k
  | .bool =>d=.bool
  | .str =>d=.string
  | .ptr e=>d=.pointer e
  | .sl e=>d=.slice e
  | .arr n e=>d=.array n e
  | .st fs=>∃F,d=.struct F∧F.toList.map (fun f=>(f.offset,f.type))=fs∧(∀f∈F,(P.info? f.type).isSome)
  | _=>True
structure Chg (M:Nat→Prop) (w w':World):Prop where
 os:w'.os=w.os
 tape:w'.tape=w.tape
 output:w'.output=w.output
 size:w.heap.size≤w'.heap.size
 block : ∀b,b<w.heap.size→¬M b→w'.heap[b]? =w.heap[b]?
theorem Chg.refl (M:Nat→Prop) (w:World):Chg M w w:=⟨rfl,rfl,rfl,Nat.le_refl _,fun _ _ _=>rfl⟩
theorem GOk.chg {w w':World} {fz M:Nat→Prop} (h:GOk w fz) (hc:Chg M w w') (hM : ∀b,fz b→b<w.heap.size∧¬M b):GOk w' fz:=by
 obtain⟨w0,h1,h2,h3⟩:=h
 exact⟨w0,h1,h2,hc.os.trans h3.os,hc.tape.trans h3.tape,hc.output.trans h3.output,Nat.le_trans h3.size hc.size,fun b hb=>(hc.block b (hM b (h2 b hb)).1 (hM b (h2 b hb)).2).trans (h3.block b hb)⟩
theorem Chg.of_below {M:Nat→Prop} {w w':World} (h:Below w.heap.size w w'):Chg M w w':=⟨h.os,h.tape,h.output,h.size,fun b hb _=>h.block b hb⟩
structure FzP (w w':World) (e e':Env):Prop where
 fz : ∀b,e'.fz b→e.fz b∨w.heap.size≤b∧b<w'.heap.size
 nf : ∀k b,e'.lv k→¬e.lv k→e'.blk k b→e'.fz b→e.fz b
theorem FzP.of {w w':World} {e e':Env} (h : ∀b,e'.fz b→e.fz b):FzP w w' e e':=⟨fun b hb=>.inl (h b hb),fun _ b _ _ _ hb=>h b hb⟩
structure Post (w w':World) (e e':Env) (nx:Nat) (out:Out) (u:Value):Prop where
 val:R w' e' out.v u
 le:e.Le e'
 fz:FzP w w' e e'
 eff : ∀k o,out.eff.get k=some o→OR w' e' k o∧e'.on k∧(o.gn=false→e'.lv k)
 new : ∀k,e'.on k→e.on k∨nx≤k∧(out.eff.get k).isSome =true
 nlv : ∀k,e'.lv k→e.lv k∨¬e.on k∧e'.on k∧∀b,e'.blk k b→b<w'.heap.size∧(w.heap.size≤b∨∃j,e.lv j∧¬e'.lv j∧e.blk j b)
 klv : ∀k,e.lv k→e'.lv k∨out.eff.get k=some .gone
 dis : ∀k k' b,e'.lv k→¬e.lv k→e'.lv k'→¬e.lv k'→e'.blk k b→e'.blk k' b→k=k'
 chg:Chg (fun b=>∃k,e.lv k∧(out.eff.get k).isSome =true∧e.blk k b) w w'
structure FOk (P:Program) (f:FuncId) (S:FSpec):Prop where
 fn : ∃fn,P.funcs[f]? =some fn∧(fn.name=="runtime.NumGoroutine")=false∧fn.body.isNone=false
 run : ∀args out,S args=some out→(∀p∈out.pre,p)→∀(w:World) (e:Env) (vals:Array Value),FzW w e.fz→Rs w e args vals.toList→
  Calls P f vals w fun en w'=>∃v e',en=.returned v∧Post w w' { e with on:=fun _=>False,lv:=fun _=>False } e' 0 out v
def RunOk (P:Program) (f:FuncId) (l:List PV) (out:Out) (H:AH):Prop:=
 ∀(w:World) (e:Env) (vals:Array Value),FzW w e.fz→(∀id o,H.get id=some o→OR w e id o∧e.on id)→(∀k,e.on k↔k<H.length)→(∀k,e.lv k↔k<H.length)→(∀k b,e.on k→e.blk k b→b<w.heap.size∧¬e.fz b)→
  (∀k k' b,e.on k→e.on k'→e.blk k b→e.blk k' b→k=k')→Rs w e l vals.toList→Calls P f vals w fun en w'=>∃v e',en=.returned v∧Post w w' e e' H.length out v
structure MOk (P:Program) (f:FuncId) (S:MSpec):Prop where
 fn : ∃fn,P.funcs[f]? =some fn∧(fn.name=="runtime.NumGoroutine")=false∧fn.body.isNone=false
 run : ∀H args out,S H args=some out→(∀p∈out.pre,p)→RunOk P f args out H
structure NOk (P:Program) (f:FuncId) (S:NSpec):Prop where
 fn : ∃fn,P.funcs[f]? =some fn∧(fn.name=="runtime.NumGoroutine")=false∧fn.body.isNone=false
 run : ∀H args out,S H args=some out→(∀p∈out.pre,p)→∀(w:World) (e:Env) (vals:Array Value),FzW w e.fz→(∀id o,H.get id=some o→OR w e id o∧e.on id)→(∀k,e.on k↔k<H.length)→(∀k,e.lv k↔k<H.length)→(∀k b,e.on k→e.blk k b→b<w.heap.size∧¬e.fz b)→
  (∀k k' b,e.on k→e.on k'→e.blk k b→e.blk k' b→k=k')→Rs w e args vals.toList→Calls P f vals w fun en w'=>∃x,out.Q x∧∃v e',en=.returned v∧Post w w' e e' H.length ⟨[],out.v x,out.eff x⟩ v
structure EqOk (P:Program) (t:TypeId):Prop where
 held:P.stoodInHeld t=false
 gd:P.eqGuardType P.depth t=false
 nm : ∀F,P.underlying t=some (.struct F)→∀f∈F.toList,f.name≠"_"
structure CxOk (P:Program) (c:Cx):Prop where
 p:c.p=std
 T : ∀t ti,c.T t=some ti→TyOk P t ti
 F : ∀f S,c.F f=some S→FOk P f S
 M : ∀f S,c.M f=some S→MOk P f S
 C : ∀t,c.C t=true→EqOk P t
 N : ∀f S,c.N f=some S→NOk P f S
 U : ∀q,c.U=some q→q=stdU
 I : ∀t k g s,c.I t k=some (g,s)→∀w:World,(nilAhead (P.types.size+Made.depth) t (.agg #[]) s).run P w=.ok (some false) w∧(method (P.types.size+Made.depth) t (.agg #[]) s).run P w=.ok (g,.agg #[]) w
section
variable {P:Program} {c:Cx} {o:Oper} {ρ:Operand→PV} {h:AH} {nx:Nat} {out:Out} {a:Act} {w:World} {e:Env}
def Done (P:Program) (o:Oper) (a:Act) (w:World) (e:Env) (nx:Nat) (out:Out):Prop:=
 o.wp P a w (fun a' w'=>∃u e',a'=a.put o.dst u∧Post w w' e e' nx out u) fun _ _ _=>False
theorem Post.same {pre:List Prop} {v:PV} {u:Value} (hv:R w e v u):Post w w e e nx ⟨pre,v,[]⟩ u:=
 ⟨hv,.refl e,.of fun _ h=>h,fun k o hk=>by simp [AH.get] at hk,fun k hk=>.inl hk,fun k hk=>.inl hk,fun k hk=>.inl hk,fun k _ _ h1 h2=>absurd h1 h2,.refl _ _⟩
theorem done_same {pre:List Prop} {v:PV} {u:Value} (hr:(execOp a.eval o).run P w=.ok (.value u) w) (hv:R w e v u):Done P o a w e nx ⟨pre,v,[]⟩:=by
 unfold Done Oper.wp
 rw [hr]
 exact⟨u,e,rfl,.same hv⟩
theorem R_const (v:Value):R w e (ofVal v) v:=by
 unfold ofVal
 split
 ·rename_i x;cases x<;>simp [R]
 ·simp [R]
 ·simp [R]
 ·simp [R]
 ·simp [R]
 ·unfold R Rs;exact⟨#[],rfl,rfl⟩
 ·simp [R]
end
end Ax
namespace Ax
open Go.RowKit
section
variable {P:Program} {w:World} {e:Env}
theorem R_i {k:IntKind} {n:Int} {u:Value} : R w e (.i k n) u↔u=.int k n:=by unfold R;exact Iff.rfl
theorem R_s {l:List UInt8} {u:Value} : R w e (.s l) u↔u=.string ⟨l.toArray⟩:=by unfold R;exact Iff.rfl
theorem R_b {x:Bool} {u:Value} : R w e (.b x) u↔u=.bool x:=by unfold R;exact Iff.rfl
theorem R_nb {x:Bool} {u:Value} : R w e (.nb x) u↔u=.bool (!x):=by unfold R;exact Iff.rfl
theorem R_bt {u:Value} : R w e .bt u↔u=.bool true:=by unfold R;exact Iff.rfl
theorem R_bf {u:Value} : R w e .bf u↔u=.bool false:=by unfold R;exact Iff.rfl
theorem wrap_in {k:IntKind} {n:Int} (h:k.min≤n∧n≤k.max):k.wrap n=n:=by
 cases k
 ·exact IntWalk.i8_in n h
 ·exact IntWalk.i16_in n h
 ·exact IntWalk.i32_in n h
 ·exact IntWalk.i64_in n h
 ·exact IntWalk.u8_in n h
 ·exact IntWalk.u16_in n h
 ·exact IntWalk.u32_in n h
 ·exact IntWalk.u64_in n h
theorem bnot_ok {p q:PV} {u:Value} (h:bnot p=some q) (hu:R w e p u) : ∃x,u=.bool x∧R w e q (.bool (!x)):=by
 cases p<;>simp only [bnot,reduceCtorEq,Option.some.injEq] at h<;>subst h
 ·rw [R_bt] at hu;exact⟨true,hu,by rw [R_bf];rfl⟩
 ·rw [R_bf] at hu;exact⟨false,hu,by rw [R_bt];rfl⟩
 ·rename_i x;rw [R_b] at hu;exact⟨x,hu,by rw [R_nb]⟩
 ·rename_i x;rw [R_nb] at hu;exact⟨!x,hu,by rw [R_b];simp⟩
theorem run_guarded {op:BinOp} {t:TypeId} {x y:Operand} {u v r:Value} (hg:eqGuard op t x y u v=pure ()) (h:(binOp op t u v).run P w=.ok r w):(do eqGuard op t x y u v;binOp op t u v:Sem Value).run P w=.ok r w:=by
 rw [hg]
 simpa using h
theorem binI_ok {op:BinOp} {t:TypeId} {x y:Operand} {k:IntKind} {a b:Int} {out:Out} (hb:binI std op k a b=some out) (hp : ∀z∈out.pre,z) :
 ∃r,(do eqGuard op t x y (.int k a) (.int k b);binOp op t (.int k a) (.int k b):Sem Value).run P w=.ok r w∧R w e out.v r∧out.eff=[]:=by
 cases op<;>simp only [binI,okp,ok,reduceCtorEq,Option.some.injEq] at hb
 all_goals subst hb
 all_goals simp only [List.mem_cons,List.not_mem_nil,or_false,forall_eq_or_imp,forall_eq,std] at hp
 all_goals simp only [R_i,R_b,R_nb,std]
 ·exact⟨_,run_guarded (eqGuard_at_int ..) (by rw [binOp_add];simp only [Op.intArith,wrap_in hp];rfl),rfl,trivial⟩
 ·exact⟨_,run_guarded (eqGuard_at_int ..) (by rw [binOp_sub];simp only [Op.intArith,wrap_in hp];rfl),rfl,trivial⟩
 ·exact⟨_,run_guarded (eqGuard_at_int ..) (by rw [binOp_mul];simp only [Op.intArith,wrap_in hp];rfl),rfl,trivial⟩
 ·exact⟨_,run_guarded (eqGuard_at_int ..) (by rw [binOp_quo];simp only [Op.intDiv,if_neg hp.1,wrap_in hp.2];rfl),rfl,trivial⟩
 ·exact⟨_,run_guarded (eqGuard_at_int ..) (by rw [binOp_rem];simp only [Op.intDiv,if_neg hp];rfl),rfl,trivial⟩
 ·exact⟨_,run_guarded (eqGuard_at_int ..) (by rw [binOp_eql];rfl),rfl,trivial⟩
 ·exact⟨_,run_guarded (eqGuard_at_int ..) (by rw [binOp_neq];rfl),rfl,trivial⟩
 ·exact⟨_,run_guarded (eqGuard_at_int ..) (by rw [binOp_lss];rfl),rfl,trivial⟩
 ·exact⟨_,run_guarded (eqGuard_at_int ..) (by rw [binOp_leq];rfl),rfl,trivial⟩
 ·exact⟨_,run_guarded (eqGuard_at_int ..) (by rw [binOp_gtr];rfl),rfl,trivial⟩
 ·exact⟨_,run_guarded (eqGuard_at_int ..) (by rw [binOp_geq];rfl),rfl,trivial⟩
theorem sLe_eq : ∀x y:List UInt8,(Op.bytesLess x y||x==y)=!Op.bytesLess y x
 | [],[]=>rfl
 | [],_::_=>rfl
 | _::_,[]=>rfl
 | a::x,b::y=>by
   have ih:=sLe_eq x y
   simp only [Op.bytesLess,List.cons_beq_cons]
   by_cases h:a=b
   ·subst h
    have : decide (a<a)=false:=by simp
    simp only [this,beq_self_eq_true,Bool.true_and,Bool.false_or]
    exact ih
   ·have h1:(a==b)=false:=by simp [h]
    have h2:(b==a)=false:=by simp [Ne.symm h]
    have h3:decide (a<b)=!decide (b<a):=by
     rw [Bool.eq_iff_iff]
     simp only [decide_eq_true_eq,Bool.not_eq_true',decide_eq_false_iff_not,UInt8.lt_iff_toNat_lt]
     have : a.toNat≠b.toNat:=fun e=>h (UInt8.toNat_inj.1 e)
     omega
    simp [h1,h2,h3]
theorem binS_ok {op:BinOp} {t:TypeId} {x y:Operand} {a b:List UInt8} {out:Out} (hb:binS std op a b=some out) (hp : ∀z∈out.pre,z) :
 ∃r,(do eqGuard op t x y (sv a) (sv b);binOp op t (sv a) (sv b):Sem Value).run P w=.ok r w∧R w e out.v r∧out.eff=[]:=by
 cases op<;>simp only [binS,okp,ok,reduceCtorEq,Option.some.injEq] at hb
 all_goals subst hb
 all_goals simp only [List.mem_cons,List.not_mem_nil,or_false,forall_eq_or_imp,forall_eq,std] at hp
 all_goals simp only [R_s,R_b,R_nb,std]
 ·refine⟨_,run_guarded (eqGuard_at_string ..) ?_,rfl,trivial⟩
  have h2 : ¬(((a.length+b.length:Nat):Int)>IntKind.i64.max):=by have:=hp.2;omega
  simp only [binOp,Op.stringOp]
  rw [show (ByteArray.mk a.toArray).size =a.length from by simp [ByteArray.size],show (ByteArray.mk b.toArray).size =b.length from by simp [ByteArray.size],if_neg h2,mk_append]
  rfl
 ·exact⟨_,run_guarded (eqGuard_at_string ..) (by simp only [binOp,Op.stringOp,ByteArray.toList_mk];rfl),rfl,trivial⟩
 ·exact⟨_,run_guarded (eqGuard_at_string ..) (by simp only [binOp,Op.stringOp,ByteArray.toList_mk];rfl),rfl,trivial⟩
 ·exact⟨_,run_guarded (eqGuard_at_string ..) (by simp only [binOp,Op.stringOp,ByteArray.toList_mk];rfl),rfl,trivial⟩
 ·exact⟨_,run_guarded (eqGuard_at_string ..) (by simp only [binOp,Op.stringOp,ByteArray.toList_mk,sLe_eq];rfl),rfl,trivial⟩
 ·exact⟨_,run_guarded (eqGuard_at_string ..) (by simp only [binOp,Op.stringOp,ByteArray.toList_mk,sLe_eq,Bool.not_not];rfl),rfl,trivial⟩
 ·exact⟨_,run_guarded (eqGuard_at_string ..) (by simp only [binOp,Op.stringOp,ByteArray.toList_mk];rfl),rfl,trivial⟩
theorem bin_ok {op:BinOp} {t:TypeId} {x y:Operand} {p q:PV} {u v:Value} {out:Out} (hb:bin std op p q=some out) (hp : ∀z∈out.pre,z) (hx:R w e p u) (hy:R w e q v) :
 ∃r,(do eqGuard op t x y u v;binOp op t u v:Sem Value).run P w=.ok r w∧R w e out.v r∧out.eff=[]:=by
 unfold bin at hb
 split at hb
 ·rw [R_i] at hx hy
  subst hx hy
  split at hb
  ·rename_i hk;subst hk;exact binI_ok hb hp
  ·cases hb
 ·rw [R_s] at hx hy
  subst hx hy
  exact binS_ok hb hp
 ·cases hb
def isB:PV→Option Bool
 | .bt =>some true
 | .bf =>some false
 | .b x=>some x
 | .nb x=>some (!x)
 | _=>none
theorem isB_ok {p:PV} {x:Bool} (h:isB p=some x) {u:Value} : R w e p u↔u=.bool x:=by
 cases p<;>simp only [isB,reduceCtorEq,Option.some.injEq] at h<;>subst h
 ·exact R_bt
 ·exact R_bf
 ·exact R_b
 ·exact R_nb
theorem eqPV_isB {p q r:PV} (h:eqPV std p q=some r) : ∃x y,isB p=some x∧isB q=some y∧isB r=some (x==y):=by
 unfold eqPV at h
 split at h<;>first | cases h | skip
 all_goals exact⟨_,_,rfl,rfl,by simp [isB,std]⟩
theorem binB_ok {op:BinOp} {t:TypeId} (ht:P.underlying t=some .bool) {x y:Operand} {p q:PV} {u v:Value} {out:Out} (hb:binB std op p q=some out) (hx:R w e p u) (hy:R w e q v) :
 ∃r,(do eqGuard op t x y u v;binOp op t u v:Sem Value).run P w=.ok r w∧R w e out.v r∧out.eff=[]:=by
 unfold binB at hb
 split at hb
 ·obtain⟨r,hr,h2⟩:=Option.bind_eq_some_iff.1 hb
  obtain⟨a,b,ha,hb',hc⟩:=eqPV_isB hr
  rw [isB_ok ha] at hx
  rw [isB_ok hb'] at hy
  subst hx hy
  simp only [ok,Option.some.injEq] at h2
  subst h2
  exact⟨_,run_guarded (eqGuard_at_bool ..) (run_eql_bool w t a b ht),(isB_ok hc).2 rfl,rfl⟩
 ·obtain⟨r,hr,h2⟩:=Option.bind_eq_some_iff.1 hb
  obtain⟨z,hz,h3⟩:=Option.bind_eq_some_iff.1 h2
  obtain⟨a,b,ha,hb',hc⟩:=eqPV_isB hr
  rw [isB_ok ha] at hx
  rw [isB_ok hb'] at hy
  subst hx hy
  simp only [ok,Option.some.injEq] at h3
  subst h3
  obtain⟨x',h4,h5⟩:=bnot_ok (w:=w) (e:=e) hz ((isB_ok hc).2 rfl)
  cases h4
  exact⟨_,run_guarded (eqGuard_at_bool ..) (run_neq_bool w t a b ht),h5,rfl⟩
 ·cases hb
end
end Ax
namespace Ax
open Go.RowKit
section
variable {P:Program} {w:World} {e:Env}
theorem adr_add (b o n:Nat):(⟨b,o,none⟩:Addr).add n=⟨b,o+n,none⟩:=by unfold Addr.add;split<;>simp_all
theorem run_isAgg {t:TypeId} {d:TypeDesc} (h:P.underlying t=some d):(isAgg t).run P w=.ok (aggD d) w:=by
 unfold isAgg
 rw [Sem.run_bind,run_underlying h w]
 cases d<;>rfl
theorem run_size {t:TypeId} {i:TypeInfo} (h:P.info? t=some i):(sizeOf t).run P w=.ok i.size w:=by simp [sizeOf,typeInfo,h]
theorem Rs_drop : ∀{l:List PV} {vs:List Value} (n:Nat),Rs w e l vs→Rs w e (l.drop n) (vs.drop n)
 | _,_,0,h=>by simpa using h
 | [],vs,n+1,h=>by unfold Rs at h;subst h;simp [Rs]
 | p::ps,vs,n+1,h=>by unfold Rs at h;obtain⟨u,us,rfl,_,h⟩:=h;simpa using Rs_drop n h
theorem Rs_take : ∀{l:List PV} {vs:List Value} (n:Nat),Rs w e l vs→Rs w e (l.take n) (vs.take n)
 | _,_,0,_=>by simp [Rs]
 | [],vs,n+1,h=>by unfold Rs at h;subst h;simp [Rs]
 | p::ps,vs,n+1,h=>by unfold Rs at h;obtain⟨u,us,rfl,h1,h⟩:=h;simp only [List.take_succ_cons];unfold Rs;exact⟨u,_,rfl,h1,Rs_take n h⟩
def At (w:World) (b o:Nat) (vs:List Value):Prop:=∀j v,vs[j]? =some v→w.cell? ⟨b,o+j,none⟩=some v
theorem Rc_at : ∀{l:List PV} {b o:Nat},Rc w e b o l→∃vs,Rs w e l vs∧At w b o vs
 | [],b,o,_=>⟨[],by simp [Rs],fun j v h=>by simp at h⟩
 | p::ps,b,o,h=>by
   unfold Rc at h
   obtain⟨⟨u,h1,h2⟩,h3⟩:=h
   obtain⟨vs,h4,h5⟩:=Rc_at h3
   refine⟨u::vs,by unfold Rs;exact⟨u,vs,rfl,h2,h4⟩,fun j v hj=>?_⟩
   cases j with
   | zero=>simp at hj;subst hj;exact h1
   | succ j=>rw [show o+(j+1)=o+1+j from by omega];exact h5 j v (by simpa using hj)
theorem at_row {b:Nat} {vs:Array Value} {ty:TypeId} {fr:Nat×Nat} (h:w.heap[b]? =some (.cells vs ty fr)):At w b 0 vs.toList:=fun j v hj=>by
 rw [Nat.zero_add,cell_of_row w b j vs ty fr h]
 simpa using hj
theorem At.drop {b o:Nat} {vs:List Value} (h:At w b o vs) (n:Nat):At w b (o+n) (vs.drop n):=fun j v hj=>by
 rw [show o+n+j=o+(n+j) from by omega]
 exact h _ v (by simpa using hj)
theorem At.take {b o:Nat} {vs:List Value} (h:At w b o vs) (n:Nat):At w b o (vs.take n):=fun j v hj=>by
 refine h j v ?_
 rw [List.getElem?_take] at hj
 split at hj
 ·exact hj
 ·cases hj
theorem load_at {t:TypeId} {ti:TI} (ht:TyOk P t ti) {b o off:Nat} {l:List PV} {vs:List Value} (hl:Rs w e l vs) (hat:At w b o vs) {p:PV} (hp:ldC ti l off=some p) :
 ∃u,(loadVar t ⟨b,o+off,none⟩).run P w=.ok u w∧R w e p u:=by
 obtain⟨⟨i,hi,hn, -⟩, -,d,hu,hag, -⟩:=ht
 unfold ldC at hp
 simp only at hp
 have hsl:=Rs_take ti.n (Rs_drop off hl)
 have hat2:=(hat.drop off).take ti.n
 generalize (l.drop off).take ti.n=r at hp hsl
 generalize (vs.drop off).take ti.n=us at hsl hat2
 have hlen:=Rs_length hsl
 split at hp
 ·rename_i hr
  have hr:r.length=ti.n:=by simpa using hr
  have hla:=run_isAgg (w:=w) hu
  rw [hag] at hla
  split at hp
  ·rename_i ha
   cases hp
   rw [ha] at hla
   have hls:=run_loadCells_list (P:=P) w ⟨b,o+off,none⟩ us (fun j v hj=>by rw [adr_add];exact hat2 j v hj)
   rw [hlen,hr] at hls
   refine⟨.agg us.toArray,?_,by unfold R;exact⟨_,rfl,by simpa using hsl⟩⟩
   simp [loadVar,Sem.run_bind,hla,run_size hi,hn,hls]
  ·rename_i ha
   have ha:ti.agg=false:=by simpa using ha
   rw [ha] at hla
   split at hp
   ·cases hp
    unfold Rs at hsl
    obtain⟨u,us',rfl,h1,h2⟩:=hsl
    refine⟨u,?_,h1⟩
    have hc:=hat2 0 u rfl
    rw [Nat.add_zero] at hc
    simp [loadVar,Sem.run_bind,hla,load,Sem.run,hc]
   ·cases hp
 ·cases hp
theorem R_one {p:PV} {u:Value} (h:p.one=true) (hu:R w e p u):u.oneCell'=true∧u.cells=#[u]:=by
 cases p<;>simp only [PV.one,Bool.false_eq_true] at h
 all_goals unfold R at hu
 case rptr=>obtain⟨_,_,rfl,_⟩:=hu;exact⟨rfl,rfl⟩
 case ptr=>obtain⟨_,_,_,rfl⟩:=hu;exact⟨rfl,rfl⟩
 case rsl=>obtain⟨_,_,rfl,_⟩:=hu;exact⟨rfl,rfl⟩
 case osl=>obtain⟨_,rfl⟩:=hu;exact⟨rfl,rfl⟩
 case fn=>obtain⟨_,rfl,_⟩:=hu;exact⟨rfl,rfl⟩
 all_goals subst hu;exact⟨rfl,rfl⟩
theorem R_cells {p:PV} {l:List PV} {u:Value} (h:cellsOf p=some l) (hu:R w e p u):Rs w e l u.cells.toList:=by
 unfold cellsOf at h
 split at h
 ·cases h
  unfold R at hu
  obtain⟨vs,rfl,h2⟩:=hu
  exact h2
 ·split at h
  ·rename_i ho
   cases h
   rw [(R_one ho hu).2]
   unfold Rs
   exact⟨u,[],rfl,hu,by unfold Rs;rfl⟩
  ·cases h
theorem Rs_one : ∀{l:List PV} {vs:List Value},l.all PV.one=true→Rs w e l vs→∀v∈vs,v.oneCell'=true
 | [],vs,_,h=>by unfold Rs at h;subst h;simp
 | p::ps,vs,ho,h=>by
   unfold Rs at h
   obtain⟨u,us,rfl,h1,h2⟩:=h
   rw [List.all_cons,Bool.and_eq_true] at ho
   intro v hv
   rcases List.mem_cons.1 hv with rfl | hv
   ·exact (R_one ho.1 h1).1
   ·exact Rs_one ho.2 h2 v hv
def patch:Array Value→Nat→List Value→Array Value
 | old,_,[]=>old
 | old,o,v::r=>patch (old.setIfInBounds o v) (o+1) r
theorem patch_size : ∀(vs:List Value) (old:Array Value) (o:Nat),(patch old o vs).size =old.size
 | [],_,_=>rfl
 | v::r,old,o=>by rw [patch,patch_size,Array.size_setIfInBounds]
theorem setRow_id (w:World) (g:Nat) (cur:Array Value) (t:TypeId) (hg:w.heap[g]? =some (.cells cur t (0,0))):w.setRow g cur=w:=by
 have hlt:g<w.heap.size:=(Array.getElem?_eq_some_iff.1 hg).1
 have hv:w.heap[g]=.cells cur t (0,0):=(Array.getElem?_eq_some_iff.1 hg).2
 unfold World.setRow
 cases w with
 | mk heap tape drawn os output=>
   congr 1
   apply Array.ext
   ·simp
   ·intro k h1 h2
    simp only [Array.getElem_modify]
    split
    ·rename_i hk;subst hk;simp at hv;simp [hv]
    ·rfl
theorem run_stores (g o:Nat) (t:TypeId) : ∀(vs:List Value) (i:Nat) (cur:Array Value) (w:World),w.heap[g]? =some (.cells cur t (0,0))→o+i+vs.length≤cur.size→(∀v∈vs,v.oneCell'=true)→
 (storeCells ⟨g,o,none⟩ vs i).run P w=.ok () (w.setRow g (patch cur (o+i) vs))
 | [],i,cur,w,hg,hl,_=>by
   show Result.ok () w=_
   rw [patch,setRow_id w g cur t hg]
 | v::rest,i,cur,w,hg,hl,h1=>by
   have hi:o+i<cur.size:=by simp at hl;omega
   have hadd:=adr_add g o i
   have hcell:w.cell? ⟨g,o+i,none⟩=some cur[o+i]:=by simp [World.cell?,hg,hi]
   have hfro:w.frozen? ⟨g,o+i,none⟩=false:=by simp [World.frozen?,hg]
   have hst:(store ((⟨g,o,none⟩:Addr).add i) v).run P w=.ok () (w.setRow g (cur.setIfInBounds (o+i) v)):=by
    rw [hadd,run_store P w _ v _ (h1 v (by simp)),hcell]
    simp [hfro,setCell_eq_setRow w g (o+i) cur t (0,0) v hg]
   have ih:=run_stores g o t rest (i+1) (cur.setIfInBounds (o+i) v) (w.setRow g (cur.setIfInBounds (o+i) v)) (setRow_heap w g cur _ t _ hg) (by simp at hl ⊢;omega) (fun x hx=>h1 x (by simp [hx]))
   simp only [storeCells,Sem.run_bind,hst,Result.andThen_ok,ih,setRow_setRow]
   rfl
theorem stC_nil (l:List PV) (o:Nat):stC l o []=l:=by cases l<;>cases o<;>rfl
theorem Rs_patch : ∀{l vs:List PV} {old:Array Value} {us:List Value} {o:Nat},Rs w e l old.toList→Rs w e vs us→o+vs.length≤l.length→Rs w e (stC l o vs) (patch old o us).toList :=by
 have key : ∀(vs:List PV) (us:List Value) (l:List PV) (old:Array Value) (o:Nat),Rs w e l old.toList→Rs w e vs us→o+vs.length≤l.length→Rs w e (stC l o vs) (patch old o us).toList :=by
  intro vs
  induction vs with
  | nil=>intro us l old o h1 h2 _;unfold Rs at h2;subst h2;rw [patch];cases l<;>cases o<;>exact h1
  | cons p ps ih=>
    intro us l old o h1 h2 hl
    unfold Rs at h2
    obtain⟨u,us',rfl,h3,h4⟩:=h2
    rw [patch]
    have hset:Rs w e (l.set o p) (old.setIfInBounds o u).toList :=by
     have hlen:=Rs_length h1
     refine Rs_of (by simpa using hlen) fun i q v hq hv=>?_
     rw [Array.toList_setIfInBounds,List.getElem?_set] at hv
     rw [List.getElem?_set] at hq
     by_cases hi:o=i
     ·subst hi
      simp only [if_true] at hq hv
      split at hq
      ·split at hv
       ·cases hq;cases hv;exact h3
       ·cases hv
      ·cases hq
     ·rw [if_neg hi] at hq hv
      obtain⟨v',h5,h6⟩:=Rs_get h1 hq
      rw [h5] at hv;cases hv;exact h6
    have:=ih us' (l.set o p) _ (o+1) hset h4 (by simp at hl ⊢;omega)
    have e1 : ∀(l:List PV) (o:Nat),o<l.length→stC (l.set o p) (o+1) ps=stC l o (p::ps):=by
     intro l
     induction l with
     | nil=>intro o ho;simp at ho
     | cons x l ihl=>
       intro o ho
       cases o with
       | zero=>cases ps<;>simp [stC,stC_nil]
       | succ o=>
         have:=ihl o (by simpa using ho)
         cases ps with
         | nil=>rw [stC_nil] at this ⊢;simp only [List.set_cons_succ,stC];rw [←this]
         | cons q qs=>simp only [List.set_cons_succ,stC];rw [this]
    rw [e1 l o (by simp at hl;omega)] at this
    exact this
 intro l vs old us o h1 h2 h3
 exact key vs us l old o h1 h2 h3
end
end Ax
end Go.Proofs.YtjjonmhpgkahoaaGreatDoor
