/-
  What the library's variables hold (with the table of powers of ten), in every world that grows out of the start world.
  Conditions: none; the closed check regCkL of the region's own edges.
-/
import Derived.Shelf.Strings.CaseAny
import Derived.Below
import Derived.Shelf.Unicode.PredsPay
import Derived.Lib.LaidTab
import Derived.Lib.ItoaNum
import Derived.Test.YtjjonmhpgkahoaaGreatDoorProg
import Derived.Test.YtjjonmhpgkahoaaGreatDoorH01
import Derived.Test.YtjjonmhpgkahoaaGreatDoorH02
import Derived.WalkKit
import Derived.WalkSpells
import Derived.WalkLawsBesides
import Derived.Laws.Tables
import Derived.Laws.Rows
import Derived.Test.YtjjonmhpgkahoaaGreatDoorH03
import Derived.Lib.LaidCase
import Derived.PinnedBridge
import Derived.ProofKit
import Derived.LaidMore
import Derived.Shelf.Vars
import Derived.ShapedOpen
import Derived.LaidSub
set_option linter.unusedSimpArgs false
set_option linter.unusedVariables false
namespace Go.Proofs.YtjjonmhpgkahoaaGreatDoor
namespace Ax
open Go.RowKit
def Gl (w:World):Prop:=((∃m:Int,w.cell? ⟨1,0,none⟩=some (.int .i64 m))∧Lib.TabIs Tryz.prog w "internal/strconv.uint64pow10" .u64 Lib.pow10Tab)∧(Lib.CaseVar 4 Lib.caseA w∧Lib.Utf8Tabs 2 3 w)
theorem Gl.mx {w:World} (h:Gl w) : ∃m:Int,w.cell? ⟨1,0,none⟩=some (.int .i64 m):=h.1.1
theorem Gl.pw {w:World} (h:Gl w):Lib.TabIs Tryz.prog w "internal/strconv.uint64pow10" .u64 Lib.pow10Tab:=h.1.2
theorem Gl.lt {w:World} (h:Gl w):Lib.CaseVar 4 Lib.caseA w∧Lib.Utf8Tabs 2 3 w:=h.2
theorem Gl.below {w w':World} (h:Gl w) (hb:Below w.heap.size w w'):Gl w':=by
 obtain⟨⟨⟨m,h1⟩,h4⟩,h2,h3⟩:=h
 exact⟨⟨⟨m,by rw [hb.cell (World.block_lt_of_cell? w _ h1)];exact h1⟩,TabIs_below (g:=0) (by kernel_rfl) h4 hb⟩,Lib.CaseVar_below h2 hb,fun c hc=>(hb.cell (World.block_lt_of_cell? w _ (h3.1 c hc))).trans (h3.1 c hc),fun i hi=>⟨(hb.cell (World.block_lt_of_cell? w _ (h3.2 i hi).1)).trans (h3.2 i hi).1,(hb.cell (World.block_lt_of_cell? w _ (h3.2 i hi).2)).trans (h3.2 i hi).2⟩⟩
def GOk (w:World) (fz:Nat→Prop):Prop:=∃w0,Gl w0∧(∀b,b<w0.heap.size→fz b)∧Below w0.heap.size w0 w
theorem GOk.gl {w:World} {fz:Nat→Prop} (h:GOk w fz):Gl w:=by
 obtain⟨w0,h1, -,h3⟩:=h
 exact h1.below h3
theorem GOk.mono {w:World} {fz fz':Nat→Prop} (h:GOk w fz) (hz : ∀b,fz b→fz' b):GOk w fz':=by
 obtain⟨w0,h1,h2,h3⟩:=h
 exact⟨w0,h1,fun b hb=>hz b (h2 b hb),h3⟩
structure FzW (w:World) (fz:Nat→Prop):Prop where
 lt : ∀b,fz b→b<w.heap.size
 gl:GOk w fz
instance {w:World} {fz:Nat→Prop} : CoeFun (FzW w fz) (fun _=>∀b,fz b→b<w.heap.size):=⟨FzW.lt⟩
open Go.RowKit
def zOk:List PV→List Value→Bool
 | [],[]=>true
 | .i k n::ps,.int k' m::vs=>k==k'&&n==m&&zOk ps vs
 | .bf ::ps,.bool false::vs=>zOk ps vs
 | .s []::ps,.string ⟨⟨[]⟩⟩::vs=>zOk ps vs
 | .esl ::ps,.slice none 0 0::vs=>zOk ps vs
 | .nilp ::ps,.pointer none::vs=>zOk ps vs
 | _,_=>false
theorem nK (w:World) (e:Env) : ∀(ps:List PV) (vs:List Value),zOk ps vs=true→Rs w e ps vs:=by
 intro ps
 induction ps with
 | nil=>intro vs h;cases vs with | nil=>unfold Rs;rfl | cons _ _=>simp [zOk] at h
 | cons p ps ih=>
   intro vs h
   unfold Rs
   unfold zOk at h
   split at h
   ·exact absurd ‹p::ps=[]› (by simp)
   ·rename_i k n ps' k' m vs' h1
    cases h1
    simp only [Bool.and_eq_true,beq_iff_eq] at h
    obtain⟨⟨rfl,rfl⟩,h⟩:=h
    exact⟨_,_,rfl,by unfold R;rfl,ih _ h⟩
   ·rename_i h1;cases h1;exact⟨_,_,rfl,by unfold R;rfl,ih _ h⟩
   ·rename_i h1;cases h1;exact⟨_,_,rfl,by unfold R;rfl,ih _ h⟩
   ·rename_i h1;cases h1;exact⟨_,_,rfl,by unfold R;rfl,ih _ h⟩
   ·rename_i h1;cases h1;exact⟨_,_,rfl,by unfold R;rfl,ih _ h⟩
   ·cases h
def QX:TypeDesc→Bool
 | .struct _ | .array _ _=>true
 | _=>false
structure ra (P:Program) (t:TypeId) (ti:TI):Prop where
 info : ∃i,P.info? t=some i∧i.size=ti.n∧∃z,i.zero=some z∧zOk ti.z z.cells.toList=true
 byt : ∀i,P.info? t=some i→Nat.ble ti.n 40=true→i.bytes≤512
 und : ∃d,P.underlying t=some d∧QX d=ti.agg∧
  match ti.d with
  | .int k=>d=.int k
  | .bool =>d=.bool
  | .str =>d=.string
  | .ptr e=>d=.pointer e
  | .sl e=>d=.slice e
  | .arr n e=>d=.array n e
  | .st fs=>∃F,d=.struct F∧F.toList.map (fun f=>(f.offset,f.type))=fs∧(∀f∈F,(P.info? f.type).isSome)
  | _=>True
structure Chg (M:Nat→Prop) (w w':World):Prop where
 os:w'.os=w.os
 tape:w'.tape=w.tape
 output:w'.output=w.output
 size:w.heap.size≤w'.heap.size
 block : ∀b,b<w.heap.size→¬M b→w'.heap[b]? =w.heap[b]?
theorem Chg.refl (M:Nat→Prop) (w:World):Chg M w w:=⟨rfl,rfl,rfl,Nat.le_refl _,fun _ _ _=>rfl⟩
theorem GOk.chg {w w':World} {fz M:Nat→Prop} (h:GOk w fz) (hc:Chg M w w') (hM : ∀b,fz b→b<w.heap.size∧¬M b):GOk w' fz:=by
 obtain⟨w0,h1,h2,h3⟩:=h
 exact⟨w0,h1,h2,hc.os.trans h3.os,hc.tape.trans h3.tape,hc.output.trans h3.output,Nat.le_trans h3.size hc.size,fun b hb=>(hc.block b (hM b (h2 b hb)).1 (hM b (h2 b hb)).2).trans (h3.block b hb)⟩
theorem Chg.of_below {M:Nat→Prop} {w w':World} (h:Below w.heap.size w w'):Chg M w w':=⟨h.os,h.tape,h.output,h.size,fun b hb _=>h.block b hb⟩
structure FzP (w w':World) (e e':Env):Prop where
 fz : ∀b,e'.fz b→e.fz b∨w.heap.size≤b∧b<w'.heap.size
 nf : ∀k b,e'.lv k→¬e.lv k→e'.blk k b→e'.fz b→e.fz b
theorem FzP.of {w w':World} {e e':Env} (h : ∀b,e'.fz b→e.fz b):FzP w w' e e':=⟨fun b hb=>.inl (h b hb),fun _ b _ _ _ hb=>h b hb⟩
structure fW (w w':World) (e e':Env) (nx:Nat) (out:Out) (u:Value):Prop where
 val:R w' e' out.v u
 le:e.Le e'
 fz:FzP w w' e e'
 eff : ∀k o,out.eff.get k=some o→OR w' e' k o∧e'.on k∧(o.gn=false→e'.lv k)
 new : ∀k,e'.on k→e.on k∨nx≤k∧(out.eff.get k).isSome =true
 nlv : ∀k,e'.lv k→e.lv k∨¬e.on k∧e'.on k∧∀b,e'.blk k b→b<w'.heap.size∧(w.heap.size≤b∨∃j,e.lv j∧¬e'.lv j∧e.blk j b)
 klv : ∀k,e.lv k→e'.lv k∨out.eff.get k=some .gone
 dis : ∀k k' b,e'.lv k→¬e.lv k→e'.lv k'→¬e.lv k'→e'.blk k b→e'.blk k' b→k=k'
 chg:Chg (fun b=>∃k,e.lv k∧(out.eff.get k).isSome =true∧e.blk k b) w w'
structure FOk (P:Program) (f:FuncId) (S:aa):Prop where
 fn : ∃fn,P.funcs[f]? =some fn∧(fn.name=="runtime.NumGoroutine")=false∧fn.body.isNone=false
 run : ∀args out,S args=some out→(∀p∈out.pre,p)→∀(w:World) (e:Env) (vals:Array Value),FzW w e.fz→Rs w e args vals.toList→
  Calls P f vals w fun en w'=>∃v e',en=.returned v∧fW w w' { e with on:=fun _=>False,lv:=fun _=>False } e' 0 out v
def Tm (P:Program) (f:FuncId) (l:List PV) (out:Out) (H:AH):Prop:=
 ∀(w:World) (e:Env) (vals:Array Value),FzW w e.fz→(∀id o,H.get id=some o→OR w e id o∧e.on id)→(∀k,e.on k↔k<H.length)→(∀k,e.lv k↔k<H.length)→(∀k b,e.on k→e.blk k b→b<w.heap.size∧¬e.fz b)→
  (∀k k' b,e.on k→e.on k'→e.blk k b→e.blk k' b→k=k')→Rs w e l vals.toList→Calls P f vals w fun en w'=>∃v e',en=.returned v∧fW w w' e e' H.length out v
structure MOk (P:Program) (f:FuncId) (S:bX):Prop where
 fn : ∃fn,P.funcs[f]? =some fn∧(fn.name=="runtime.NumGoroutine")=false∧fn.body.isNone=false
 run : ∀H args out,S H args=some out→(∀p∈out.pre,p)→Tm P f args out H
structure NOk (P:Program) (f:FuncId) (S:d7):Prop where
 fn : ∃fn,P.funcs[f]? =some fn∧(fn.name=="runtime.NumGoroutine")=false∧fn.body.isNone=false
 run : ∀H args out,S H args=some out→(∀p∈out.pre,p)→∀(w:World) (e:Env) (vals:Array Value),FzW w e.fz→(∀id o,H.get id=some o→OR w e id o∧e.on id)→(∀k,e.on k↔k<H.length)→(∀k,e.lv k↔k<H.length)→(∀k b,e.on k→e.blk k b→b<w.heap.size∧¬e.fz b)→
  (∀k k' b,e.on k→e.on k'→e.blk k b→e.blk k' b→k=k')→Rs w e args vals.toList→Calls P f vals w fun en w'=>∃x,out.Q x∧∃v e',en=.returned v∧fW w w' e e' H.length ⟨[],out.v x,out.eff x⟩ v
structure Mn (P:Program) (t:TypeId):Prop where
 held:P.stoodInHeld t=false
 gd:P.eqGuardType P.depth t=false
 nm : ∀F,P.underlying t=some (.struct F)→∀f∈F.toList,f.name≠"_"
structure dD (P:Program) (c:Cx):Prop where
 p:c.p=std
 T : ∀t ti,c.T t=some ti→ra P t ti
 F : ∀f S,c.F f=some S→FOk P f S
 M : ∀f S,c.M f=some S→MOk P f S
 C : ∀t,c.C t=true→Mn P t
 N : ∀f S,c.N f=some S→NOk P f S
 U : ∀q,c.U=some q→q=dU
 I : ∀t k g s,c.I t k=some (g,s)→∀w:World,(nilAhead (P.types.size+Made.depth) t (.agg #[]) s).run P w=.ok (some false) w∧(method (P.types.size+Made.depth) t (.agg #[]) s).run P w=.ok (g,.agg #[]) w
section
variable {P:Program} {c:Cx} {o:Oper} {ρ:Operand→PV} {h:AH} {nx:Nat} {out:Out} {a:Act} {w:World} {e:Env}
def dZ (P:Program) (o:Oper) (a:Act) (w:World) (e:Env) (nx:Nat) (out:Out):Prop:=
 o.wp P a w (fun a' w'=>∃u e',a'=a.put o.dst u∧fW w w' e e' nx out u) fun _ _ _=>False
theorem fW.same {pre:List Prop} {v:PV} {u:Value} (hv:R w e v u):fW w w e e nx ⟨pre,v,[]⟩ u:=
 ⟨hv,.refl e,.of fun _ h=>h,fun k o hk=>by simp [AH.get] at hk,fun k hk=>.inl hk,fun k hk=>.inl hk,fun k hk=>.inl hk,fun k _ _ h1 h2=>absurd h1 h2,.refl _ _⟩
theorem am {pre:List Prop} {v:PV} {u:Value} (hr:(execOp a.eval o).run P w=.ok (.value u) w) (hv:R w e v u):dZ P o a w e nx ⟨pre,v,[]⟩:=by
 unfold dZ Oper.wp
 rw [hr]
 exact⟨u,e,rfl,.same hv⟩
theorem GK (v:Value):R w e (Jf v) v:=by
 unfold Jf
 split
 ·rename_i x;cases x<;>simp [R]
 ·simp [R]
 ·simp [R]
 ·simp [R]
 ·simp [R]
 ·unfold R Rs;exact⟨#[],rfl,rfl⟩
 ·simp [R]
end
open Go.RowKit
section
variable {P:Program} {w:World} {e:Env}
theorem R_i {k:IntKind} {n:Int} {u:Value} : R w e (.i k n) u↔u=.int k n:=by unfold R;exact Iff.rfl
theorem R_s {l:List UInt8} {u:Value} : R w e (.s l) u↔u=.string ⟨l.toArray⟩:=by unfold R;exact Iff.rfl
theorem R_b {x:Bool} {u:Value} : R w e (.b x) u↔u=.bool x:=by unfold R;exact Iff.rfl
theorem DE {x:Bool} {u:Value} : R w e (.nb x) u↔u=.bool (!x):=by unfold R;exact Iff.rfl
theorem HA {u:Value} : R w e .bt u↔u=.bool true:=by unfold R;exact Iff.rfl
theorem Io {u:Value} : R w e .bf u↔u=.bool false:=by unfold R;exact Iff.rfl
theorem nA {k:IntKind} {n:Int} (h:k.min≤n∧n≤k.max):k.wrap n=n:=by
 cases k
 ·exact IntWalk.i8_in n h
 ·exact IntWalk.i16_in n h
 ·exact IntWalk.i32_in n h
 ·exact IntWalk.i64_in n h
 ·exact IntWalk.u8_in n h
 ·exact IntWalk.u16_in n h
 ·exact IntWalk.u32_in n h
 ·exact IntWalk.u64_in n h
theorem GA {p q:PV} {u:Value} (h:NC p=some q) (hu:R w e p u) : ∃x,u=.bool x∧R w e q (.bool (!x)):=by
 cases p<;>simp only [NC,reduceCtorEq,Option.some.injEq] at h<;>subst h
 ·rw [HA] at hu;exact⟨true,hu,by rw [Io];rfl⟩
 ·rw [Io] at hu;exact⟨false,hu,by rw [HA];rfl⟩
 ·rename_i x;rw [R_b] at hu;exact⟨x,hu,by rw [DE]⟩
 ·rename_i x;rw [DE] at hu;exact⟨!x,hu,by rw [R_b];simp⟩
theorem bh {op:BinOp} {t:TypeId} {x y:Operand} {u v r:Value} (hg:eqGuard op t x y u v=pure ()) (h:(binOp op t u v).run P w=.ok r w):(do eqGuard op t x y u v;binOp op t u v:Sem Value).run P w=.ok r w:=by
 rw [hg]
 simpa using h
theorem NV {op:BinOp} {t:TypeId} {x y:Operand} {k:IntKind} {a b:Int} {out:Out} (hb:Nk std op k a b=some out) (hp : ∀z∈out.pre,z) :
 ∃r,(do eqGuard op t x y (.int k a) (.int k b);binOp op t (.int k a) (.int k b):Sem Value).run P w=.ok r w∧R w e out.v r∧out.eff=[]:=by
 cases op<;>simp only [Nk,okp,ok,reduceCtorEq,Option.some.injEq] at hb
 all_goals subst hb
 all_goals simp only [List.mem_cons,List.not_mem_nil,or_false,forall_eq_or_imp,forall_eq,std] at hp
 all_goals simp only [R_i,R_b,DE,std]
 ·exact⟨_,bh (eqGuard_at_int ..) (by rw [binOp_add];simp only [Op.intArith,nA hp];rfl),rfl,trivial⟩
 ·exact⟨_,bh (eqGuard_at_int ..) (by rw [binOp_sub];simp only [Op.intArith,nA hp];rfl),rfl,trivial⟩
 ·exact⟨_,bh (eqGuard_at_int ..) (by rw [binOp_mul];simp only [Op.intArith,nA hp];rfl),rfl,trivial⟩
 ·exact⟨_,bh (eqGuard_at_int ..) (by rw [binOp_quo];simp only [Op.intDiv,if_neg hp.1,nA hp.2];rfl),rfl,trivial⟩
 ·exact⟨_,bh (eqGuard_at_int ..) (by rw [binOp_rem];simp only [Op.intDiv,if_neg hp];rfl),rfl,trivial⟩
 ·exact⟨_,bh (eqGuard_at_int ..) (by rw [binOp_eql];rfl),rfl,trivial⟩
 ·exact⟨_,bh (eqGuard_at_int ..) (by rw [binOp_neq];rfl),rfl,trivial⟩
 ·exact⟨_,bh (eqGuard_at_int ..) (by rw [binOp_lss];rfl),rfl,trivial⟩
 ·exact⟨_,bh (eqGuard_at_int ..) (by rw [binOp_leq];rfl),rfl,trivial⟩
 ·exact⟨_,bh (eqGuard_at_int ..) (by rw [binOp_gtr];rfl),rfl,trivial⟩
 ·exact⟨_,bh (eqGuard_at_int ..) (by rw [binOp_geq];rfl),rfl,trivial⟩
theorem Fn : ∀x y:List UInt8,(Op.bytesLess x y||x==y)=!Op.bytesLess y x
 | [],[]=>rfl
 | [],_::_=>rfl
 | _::_,[]=>rfl
 | a::x,b::y=>by
   have ih:=Fn x y
   simp only [Op.bytesLess,List.cons_beq_cons]
   by_cases h:a=b
   ·subst h
    have : decide (a<a)=false:=by simp
    simp only [this,beq_self_eq_true,Bool.true_and,Bool.false_or]
    exact ih
   ·have h1:(a==b)=false:=by simp [h]
    have h2:(b==a)=false:=by simp [Ne.symm h]
    have h3:decide (a<b)=!decide (b<a):=by
     rw [Bool.eq_iff_iff]
     simp only [decide_eq_true_eq,Bool.not_eq_true',decide_eq_false_iff_not,UInt8.lt_iff_toNat_lt]
     have : a.toNat≠b.toNat:=fun e=>h (UInt8.toNat_inj.1 e)
     omega
    simp [h1,h2,h3]
theorem NI {op:BinOp} {t:TypeId} {x y:Operand} {a b:List UInt8} {out:Out} (hb:L5 std op a b=some out) (hp : ∀z∈out.pre,z) :
 ∃r,(do eqGuard op t x y (sv a) (sv b);binOp op t (sv a) (sv b):Sem Value).run P w=.ok r w∧R w e out.v r∧out.eff=[]:=by
 cases op<;>simp only [L5,okp,ok,reduceCtorEq,Option.some.injEq] at hb
 all_goals subst hb
 all_goals simp only [List.mem_cons,List.not_mem_nil,or_false,forall_eq_or_imp,forall_eq,std] at hp
 all_goals simp only [R_s,R_b,DE,std]
 ·refine⟨_,bh (eqGuard_at_string ..) ?_,rfl,trivial⟩
  have h2 : ¬(((a.length+b.length:Nat):Int)>IntKind.i64.max):=by have:=hp.2;omega
  simp only [binOp,Op.stringOp]
  rw [show (ByteArray.mk a.toArray).size =a.length from by simp [ByteArray.size],show (ByteArray.mk b.toArray).size =b.length from by simp [ByteArray.size],if_neg h2,IE]
  rfl
 ·exact⟨_,bh (eqGuard_at_string ..) (by simp only [binOp,Op.stringOp,ByteArray.toList_mk];rfl),rfl,trivial⟩
 ·exact⟨_,bh (eqGuard_at_string ..) (by simp only [binOp,Op.stringOp,ByteArray.toList_mk];rfl),rfl,trivial⟩
 ·exact⟨_,bh (eqGuard_at_string ..) (by simp only [binOp,Op.stringOp,ByteArray.toList_mk];rfl),rfl,trivial⟩
 ·exact⟨_,bh (eqGuard_at_string ..) (by simp only [binOp,Op.stringOp,ByteArray.toList_mk,Fn];rfl),rfl,trivial⟩
 ·exact⟨_,bh (eqGuard_at_string ..) (by simp only [binOp,Op.stringOp,ByteArray.toList_mk,Fn,Bool.not_not];rfl),rfl,trivial⟩
 ·exact⟨_,bh (eqGuard_at_string ..) (by simp only [binOp,Op.stringOp,ByteArray.toList_mk];rfl),rfl,trivial⟩
theorem QU {op:BinOp} {t:TypeId} {x y:Operand} {p q:PV} {u v:Value} {out:Out} (hb:bin std op p q=some out) (hp : ∀z∈out.pre,z) (hx:R w e p u) (hy:R w e q v) :
 ∃r,(do eqGuard op t x y u v;binOp op t u v:Sem Value).run P w=.ok r w∧R w e out.v r∧out.eff=[]:=by
 unfold bin at hb
 split at hb
 ·rw [R_i] at hx hy
  subst hx hy
  split at hb
  ·rename_i hk;subst hk;exact NV hb hp
  ·cases hb
 ·rw [R_s] at hx hy
  subst hx hy
  exact NI hb hp
 ·cases hb
def isB:PV→Option Bool
 | .bt =>some true
 | .bf =>some false
 | .b x=>some x
 | .nb x=>some (!x)
 | _=>none
theorem ka {p:PV} {x:Bool} (h:isB p=some x) {u:Value} : R w e p u↔u=.bool x:=by
 cases p<;>simp only [isB,reduceCtorEq,Option.some.injEq] at h<;>subst h
 ·exact HA
 ·exact Io
 ·exact R_b
 ·exact DE
theorem DH {p q r:PV} (h:N4 std p q=some r) : ∃x y,isB p=some x∧isB q=some y∧isB r=some (x==y):=by
 unfold N4 at h
 split at h<;>first | cases h | skip
 all_goals refine⟨_,_,rfl,rfl,?_⟩
 all_goals try (simp [isB,std];done)
 all_goals (rename_i a b;cases a<;>cases b<;>rfl)
theorem MG {op:BinOp} {t:TypeId} (ht:P.underlying t=some .bool) {x y:Operand} {p q:PV} {u v:Value} {out:Out} (hb:Kg std op p q=some out) (hx:R w e p u) (hy:R w e q v) :
 ∃r,(do eqGuard op t x y u v;binOp op t u v:Sem Value).run P w=.ok r w∧R w e out.v r∧out.eff=[]:=by
 unfold Kg at hb
 split at hb
 ·obtain⟨r,hr,h2⟩:=Option.bind_eq_some_iff.1 hb
  obtain⟨a,b,ha,hb',hc⟩:=DH hr
  rw [ka ha] at hx
  rw [ka hb'] at hy
  subst hx hy
  simp only [ok,Option.some.injEq] at h2
  subst h2
  exact⟨_,bh (eqGuard_at_bool ..) (run_eql_bool w t a b ht),(ka hc).2 rfl,rfl⟩
 ·obtain⟨r,hr,h2⟩:=Option.bind_eq_some_iff.1 hb
  obtain⟨z,hz,h3⟩:=Option.bind_eq_some_iff.1 h2
  obtain⟨a,b,ha,hb',hc⟩:=DH hr
  rw [ka ha] at hx
  rw [ka hb'] at hy
  subst hx hy
  simp only [ok,Option.some.injEq] at h3
  subst h3
  obtain⟨x',h4,h5⟩:=GA (w:=w) (e:=e) hz ((ka hc).2 rfl)
  cases h4
  exact⟨_,bh (eqGuard_at_bool ..) (run_neq_bool w t a b ht),h5,rfl⟩
 ·cases hb
end
open Go.RowKit
section
variable {P:Program} {w:World} {e:Env}
theorem jH (b o n:Nat):(⟨b,o,none⟩:Addr).add n=⟨b,o+n,none⟩:=by unfold Addr.add;split<;>simp_all
theorem z6 {t:TypeId} {d:TypeDesc} (h:P.underlying t=some d):(isAgg t).run P w=.ok (QX d) w:=by
 unfold isAgg
 rw [Sem.run_bind,run_underlying h w]
 cases d<;>rfl
theorem eb {t:TypeId} {i:TypeInfo} (h:P.info? t=some i):(sizeOf t).run P w=.ok i.size w:=by simp [sizeOf,typeInfo,h]
theorem Bu : ∀{l:List PV} {vs:List Value} (n:Nat),Rs w e l vs→Rs w e (l.drop n) (vs.drop n)
 | _,_,0,h=>by simpa using h
 | [],vs,n+1,h=>by unfold Rs at h;subst h;simp [Rs]
 | p::ps,vs,n+1,h=>by unfold Rs at h;obtain⟨u,us,rfl,_,h⟩:=h;simpa using Bu n h
theorem BL : ∀{l:List PV} {vs:List Value} (n:Nat),Rs w e l vs→Rs w e (l.take n) (vs.take n)
 | _,_,0,_=>by simp [Rs]
 | [],vs,n+1,h=>by unfold Rs at h;subst h;simp [Rs]
 | p::ps,vs,n+1,h=>by unfold Rs at h;obtain⟨u,us,rfl,h1,h⟩:=h;simp only [List.take_succ_cons];unfold Rs;exact⟨u,_,rfl,h1,BL n h⟩
def At (w:World) (b o:Nat) (vs:List Value):Prop:=∀j v,vs[j]? =some v→w.cell? ⟨b,o+j,none⟩=some v
theorem GD : ∀{l:List PV} {b o:Nat},Rc w e b o l→∃vs,Rs w e l vs∧At w b o vs
 | [],b,o,_=>⟨[],by simp [Rs],fun j v h=>by simp at h⟩
 | p::ps,b,o,h=>by
   unfold Rc at h
   obtain⟨⟨u,h1,h2⟩,h3⟩:=h
   obtain⟨vs,h4,h5⟩:=GD h3
   refine⟨u::vs,by unfold Rs;exact⟨u,vs,rfl,h2,h4⟩,fun j v hj=>?_⟩
   cases j with
   | zero=>simp at hj;subst hj;exact h1
   | succ j=>rw [show o+(j+1)=o+1+j from by omega];exact h5 j v (by simpa using hj)
theorem JZ {b:Nat} {vs:Array Value} {ty:TypeId} {fr:Nat×Nat} (h:w.heap[b]? =some (.cells vs ty fr)):At w b 0 vs.toList:=fun j v hj=>by
 rw [Nat.zero_add,cell_of_row w b j vs ty fr h]
 simpa using hj
theorem At.drop {b o:Nat} {vs:List Value} (h:At w b o vs) (n:Nat):At w b (o+n) (vs.drop n):=fun j v hj=>by
 rw [show o+n+j=o+(n+j) from by omega]
 exact h _ v (by simpa using hj)
theorem At.take {b o:Nat} {vs:List Value} (h:At w b o vs) (n:Nat):At w b o (vs.take n):=fun j v hj=>by
 refine h j v ?_
 rw [List.getElem?_take] at hj
 split at hj
 ·exact hj
 ·cases hj
theorem nM {t:TypeId} {ti:TI} (ht:ra P t ti) {b o off:Nat} {l:List PV} {vs:List Value} (hl:Rs w e l vs) (hat:At w b o vs) {p:PV} (hp:ldC ti l off=some p) :
 ∃u,(loadVar t ⟨b,o+off,none⟩).run P w=.ok u w∧R w e p u:=by
 obtain⟨⟨i,hi,hn, -⟩, -,d,hu,hag, -⟩:=ht
 unfold ldC at hp
 simp only at hp
 have hsl:=BL ti.n (Bu off hl)
 have hat2:=(hat.drop off).take ti.n
 generalize (l.drop off).take ti.n=r at hp hsl
 generalize (vs.drop off).take ti.n=us at hsl hat2
 have hlen:=bm hsl
 split at hp
 ·rename_i hr
  have hr:r.length=ti.n:=by simpa using hr
  have hla:=z6 (w:=w) hu
  rw [hag] at hla
  split at hp
  ·rename_i ha
   cases hp
   rw [ha] at hla
   have hls:=run_loadCells_list (P:=P) w ⟨b,o+off,none⟩ us (fun j v hj=>by rw [jH];exact hat2 j v hj)
   rw [hlen,hr] at hls
   refine⟨.agg us.toArray,?_,by unfold R;exact⟨_,rfl,by simpa using hsl⟩⟩
   simp [loadVar,Sem.run_bind,hla,eb hi,hn,hls]
  ·rename_i ha
   have ha:ti.agg=false:=by simpa using ha
   rw [ha] at hla
   split at hp
   ·cases hp
    unfold Rs at hsl
    obtain⟨u,us',rfl,h1,h2⟩:=hsl
    refine⟨u,?_,h1⟩
    have hc:=hat2 0 u rfl
    rw [Nat.add_zero] at hc
    simp [loadVar,Sem.run_bind,hla,load,Sem.run,hc]
   ·cases hp
 ·cases hp
theorem Pu {p:PV} {u:Value} (h:p.one=true) (hu:R w e p u):u.oneCell'=true∧u.cells=#[u]:=by
 cases p<;>simp only [PV.one,Bool.false_eq_true] at h
 all_goals unfold R at hu
 case rptr=>obtain⟨_,_,rfl,_⟩:=hu;exact⟨rfl,rfl⟩
 case ptr=>obtain⟨_,_,_,rfl⟩:=hu;exact⟨rfl,rfl⟩
 case rsl=>obtain⟨_,_,rfl,_⟩:=hu;exact⟨rfl,rfl⟩
 case osl=>obtain⟨_,rfl⟩:=hu;exact⟨rfl,rfl⟩
 case fn=>obtain⟨_,rfl,_⟩:=hu;exact⟨rfl,rfl⟩
 all_goals subst hu;exact⟨rfl,rfl⟩
theorem pT {p:PV} {l:List PV} {u:Value} (h:cellsOf p=some l) (hu:R w e p u):Rs w e l u.cells.toList:=by
 unfold cellsOf at h
 split at h
 ·cases h
  unfold R at hu
  obtain⟨vs,rfl,h2⟩:=hu
  exact h2
 ·split at h
  ·rename_i ho
   cases h
   rw [(Pu ho hu).2]
   unfold Rs
   exact⟨u,[],rfl,hu,by unfold Rs;rfl⟩
  ·cases h
theorem Bm : ∀{l:List PV} {vs:List Value},l.all PV.one=true→Rs w e l vs→∀v∈vs,v.oneCell'=true
 | [],vs,_,h=>by unfold Rs at h;subst h;simp
 | p::ps,vs,ho,h=>by
   unfold Rs at h
   obtain⟨u,us,rfl,h1,h2⟩:=h
   rw [List.all_cons,Bool.and_eq_true] at ho
   intro v hv
   rcases List.mem_cons.1 hv with rfl | hv
   ·exact (Pu ho.1 h1).1
   ·exact Bm ho.2 h2 v hv
def patch:Array Value→Nat→List Value→Array Value
 | old,_,[]=>old
 | old,o,v::r=>patch (old.setIfInBounds o v) (o+1) r
theorem dT : ∀(vs:List Value) (old:Array Value) (o:Nat),(patch old o vs).size =old.size
 | [],_,_=>rfl
 | v::r,old,o=>by rw [patch,dT,Array.size_setIfInBounds]
theorem Ie (w:World) (g:Nat) (cur:Array Value) (t:TypeId) (hg:w.heap[g]? =some (.cells cur t (0,0))):w.setRow g cur=w:=by
 have hlt:g<w.heap.size:=(Array.getElem?_eq_some_iff.1 hg).1
 have hv:w.heap[g]=.cells cur t (0,0):=(Array.getElem?_eq_some_iff.1 hg).2
 unfold World.setRow
 cases w with
 | mk heap tape drawn os output=>
   congr 1
   apply Array.ext
   ·simp
   ·intro k h1 h2
    simp only [Array.getElem_modify]
    split
    ·rename_i hk;subst hk;simp at hv;simp [hv]
    ·rfl
theorem np (g o:Nat) (t:TypeId) : ∀(vs:List Value) (i:Nat) (cur:Array Value) (w:World),w.heap[g]? =some (.cells cur t (0,0))→o+i+vs.length≤cur.size→(∀v∈vs,v.oneCell'=true)→
 (storeCells ⟨g,o,none⟩ vs i).run P w=.ok () (w.setRow g (patch cur (o+i) vs))
 | [],i,cur,w,hg,hl,_=>by
   show Result.ok () w=_
   rw [patch,Ie w g cur t hg]
 | v::rest,i,cur,w,hg,hl,h1=>by
   have hi:o+i<cur.size:=by simp at hl;omega
   have hadd:=jH g o i
   have hcell:w.cell? ⟨g,o+i,none⟩=some cur[o+i]:=by simp [World.cell?,hg,hi]
   have hfro:w.frozen? ⟨g,o+i,none⟩=false:=by simp [World.frozen?,hg]
   have hst:(store ((⟨g,o,none⟩:Addr).add i) v).run P w=.ok () (w.setRow g (cur.setIfInBounds (o+i) v)):=by
    rw [hadd,run_store P w _ v _ (h1 v (by simp)),hcell]
    simp [hfro,setCell_eq_setRow w g (o+i) cur t (0,0) v hg]
   have ih:=np g o t rest (i+1) (cur.setIfInBounds (o+i) v) (w.setRow g (cur.setIfInBounds (o+i) v)) (setRow_heap w g cur _ t _ hg) (by simp at hl ⊢;omega) (fun x hx=>h1 x (by simp [hx]))
   simp only [storeCells,Sem.run_bind,hst,Result.andThen_ok,ih,setRow_setRow]
   rfl
theorem Hf (l:List PV) (o:Nat):stC l o []=l:=by cases l<;>cases o<;>rfl
theorem yx : ∀{l vs:List PV} {old:Array Value} {us:List Value} {o:Nat},Rs w e l old.toList→Rs w e vs us→o+vs.length≤l.length→Rs w e (stC l o vs) (patch old o us).toList :=by
 have key : ∀(vs:List PV) (us:List Value) (l:List PV) (old:Array Value) (o:Nat),Rs w e l old.toList→Rs w e vs us→o+vs.length≤l.length→Rs w e (stC l o vs) (patch old o us).toList :=by
  intro vs
  induction vs with
  | nil=>intro us l old o h1 h2 _;unfold Rs at h2;subst h2;rw [patch];cases l<;>cases o<;>exact h1
  | cons p ps ih=>
    intro us l old o h1 h2 hl
    unfold Rs at h2
    obtain⟨u,us',rfl,h3,h4⟩:=h2
    rw [patch]
    have hset:Rs w e (l.set o p) (old.setIfInBounds o u).toList :=by
     have hlen:=bm h1
     refine pM (by simpa using hlen) fun i q v hq hv=>?_
     rw [Array.toList_setIfInBounds,List.getElem?_set] at hv
     rw [List.getElem?_set] at hq
     by_cases hi:o=i
     ·subst hi
      simp only [if_true] at hq hv
      split at hq
      ·split at hv
       ·cases hq;cases hv;exact h3
       ·cases hv
      ·cases hq
     ·rw [if_neg hi] at hq hv
      obtain⟨v',h5,h6⟩:=mB h1 hq
      rw [h5] at hv;cases hv;exact h6
    have:=ih us' (l.set o p) _ (o+1) hset h4 (by simp at hl ⊢;omega)
    have e1 : ∀(l:List PV) (o:Nat),o<l.length→stC (l.set o p) (o+1) ps=stC l o (p::ps):=by
     intro l
     induction l with
     | nil=>intro o ho;simp at ho
     | cons x l ihl=>
       intro o ho
       cases o with
       | zero=>cases ps<;>simp [stC,Hf]
       | succ o=>
         have:=ihl o (by simpa using ho)
         cases ps with
         | nil=>rw [Hf] at this ⊢;simp only [List.set_cons_succ,stC];rw [←this]
         | cons q qs=>simp only [List.set_cons_succ,stC];rw [this]
    rw [e1 l o (by simp at hl;omega)] at this
    exact this
 intro l vs old us o h1 h2 h3
 exact key vs us l old o h1 h2 h3
end
open Go.RowKit
def Env.add (e:Env) (id b:Nat):Env:={ e with adr:=fun k=>if k=id then some ⟨b,0,none⟩ else e.adr k,on:=fun k=>k=id∨e.on k,lv:=fun k=>k=id∨e.lv k }
section
variable {P:Program} {o:Oper} {a:Act} {w:World} {e:Env} {nx:Nat}
theorem nt {b:Nat} {x:Obj} (h:w.heap[b]? =some x):b<w.heap.size:=(Array.getElem?_eq_some_iff.1 h).1
theorem Env.le_add {id b:Nat} (h : ¬e.on id):e.Le (e.add id b):=
 ⟨fun _ hk=>.inr hk,fun k hk=>if_neg (fun hh:k=id=>h (hh ▸ hk)),fun _ _=>rfl,fun _ _=>rfl,fun _ hb=>hb⟩
theorem qX (hz : ∀b,e.fz b→b<w.heap.size) (x:Obj):Same e.fz w (w.alloc x):=fun b hb=>Below.heap_alloc w x b (hz b hb)
theorem DP {pre:List Prop} {l:List PV} {cs:Array Value} {t:TypeId} (hn : ¬e.on nx) (hz : ∀b,e.fz b→b<w.heap.size) (hl:Rs w e l cs.toList)
 (hr:(execOp a.eval o).run P w=.ok (.value (.pointer (some ⟨w.heap.size,0,none⟩))) (w.alloc (.cells cs t))):dZ P o a w e nx ⟨pre,.ptr nx 0,[(nx,.cells l t)]⟩:=by
 unfold dZ Oper.wp
 rw [hr]
 have hle:=Env.le_add (b:=w.heap.size) hn
 have ha:(e.add nx w.heap.size).adr nx=some ⟨w.heap.size,0,none⟩:=if_pos rfl
 have hget : ∀k o',AH.get [(nx,Ob.cells l t)] k=some o'→k=nx∧o'=.cells l t:=fun k o' hk=>by
  unfold AH.get at hk
  split at hk
  ·rename_i hkk;exact⟨(by simpa using hkk:nx=k).symm,by cases hk;rfl⟩
  ·cases hk
 have hb0 : ∀b,(e.add nx w.heap.size).blk nx b→b=w.heap.size:=fun b ⟨x,h1,h2⟩=>by rw [ha] at h1;cases h1;exact h2.symm
 refine⟨_,e.add nx w.heap.size,rfl,?_,hle,.of fun _ h=>h,?_,?_,?_,fun k hk=>.inl (.inr hk),?_,?_⟩
 ·unfold R;exact⟨.inl rfl,_,ha,rfl⟩
 ·intro k o' hk
  obtain⟨rfl,rfl⟩:=hget k o' hk
  exact⟨⟨_,_,ha,fun hf=>absurd (hz _ hf) (Nat.lt_irrefl _),heap_alloc_new w _,gD (qX hz _) hle l _ hl⟩,.inl rfl,fun _=>.inl rfl⟩
 ·rintro k (rfl | hk)
  ·exact .inr ⟨Nat.le_refl _,by simp [AH.get]⟩
  ·exact .inl hk
 ·rintro k (rfl | hk)
  ·exact .inr ⟨hn,.inl rfl,fun b hb=>by rw [hb0 b hb];exact⟨nt (heap_alloc_new w _),.inl (Nat.le_refl _)⟩⟩
  ·exact .inl hk
 ·rintro k k' b (rfl | hk) h1 (rfl | hk') h2 _ _
  ·rfl
  ·exact absurd hk' h2
  ·exact absurd hk h1
  ·exact absurd hk h1
 ·exact .of_below ((Below.refl _ _).alloc (Nat.le_refl _) _)
theorem FB {pre:List Prop} {id:Nat} (hlv:e.lv id) {l':List PV} {b:Nat} {vs vs':Array Value} {t:TypeId} (ho:e.on id) (ha:e.adr id=some ⟨b,0,none⟩) (hf : ¬e.fz b) (hg:w.heap[b]? =some (.cells vs t (0,0)))
 (hl:Rs w e l' vs'.toList) (hr:(execOp a.eval o).run P w=.ok .skip (w.setRow b vs')):dZ P o a w e nx ⟨pre,.tup [],[(id,.cells l' t)]⟩:=by
 unfold dZ Oper.wp
 rw [hr]
 have hsame:Same e.fz w (w.setRow b vs'):=fun x hx=>by
  have : x≠b:=fun h=>hf (h ▸ hx)
  simp only [World.setRow,Array.getElem?_modify]
  rw [if_neg (by omega)]
 have hget : ∀k o',AH.get [(id,Ob.cells l' t)] k=some o'→k=id∧o'=.cells l' t:=fun k o' hk=>by
  unfold AH.get at hk
  split at hk
  ·rename_i hkk;exact⟨(by simpa using hkk:id=k).symm,by cases hk;rfl⟩
  ·cases hk
 refine⟨undef,e,rfl,?_,.refl e,.of fun _ h=>h,?_,fun k hk=>.inl hk,fun k hk=>.inl hk,fun k hk=>.inl hk,fun k _ _ h1 h2=>absurd h1 h2,?_⟩
 ·unfold R;exact⟨#[],rfl,by unfold Rs;rfl⟩
 ·intro k o' hk
  obtain⟨rfl,rfl⟩:=hget k o' hk
  exact⟨⟨b,vs',ha,hf,setRow_heap w b vs vs' t _ hg,gD hsame (.refl e) l' _ hl⟩,ho,fun _=>hlv⟩
 ·refine⟨rfl,rfl,rfl,by simp [World.setRow],fun x hx hM=>?_⟩
  have : x≠b:=fun h=>hM ⟨id,hlv,by simp [AH.get],_,ha,h.symm⟩
  simp only [World.setRow,Array.getElem?_modify]
  rw [if_neg (by omega)]
theorem eS : ∀(us:List Value) (old:Array Value) (o k:Nat),(patch old o us)[k]? =if o≤k∧k<o+us.length∧k<old.size then us[k-o]? else old[k]?
 | [],old,o,k=>by rw [patch,if_neg (by simp;omega)]
 | u::us,old,o,k=>by
   rw [patch,eS us,Array.size_setIfInBounds,Array.getElem?_setIfInBounds]
   by_cases h1:o=k
   ·subst h1
    rw [if_neg (by omega),if_pos rfl]
    by_cases h2:o<old.size
    ·rw [if_pos h2,if_pos ⟨Nat.le_refl _,by simp,h2⟩,Nat.sub_self];rfl
    ·rw [if_neg h2,if_neg (by omega),Array.getElem?_eq_none (by omega)]
   ·rw [if_neg h1]
    by_cases h2:o+1≤k∧k<o+1+us.length∧k<old.size
    ·rw [if_pos h2,if_pos ⟨by omega,by simp;omega,h2.2.2⟩,show k-o=(k-(o+1))+1 from by omega];rfl
    ·rw [if_neg h2,if_neg (by simp;omega)]
theorem CV {w w':World} {fz:Nat→Prop} (h:Same fz w w') {y:Type} {Q Q':y→Value→Prop} (hQ : ∀x v,Q x v→Q' x v) : ∀(ts:List aw) (b o:Nat) (x:EL2 y ts),(∀j,j≤ts.length→w'.cell? ⟨b,o+j,none⟩=w.cell? ⟨b,o+j,none⟩)→REs w fz Q ts b o x→REs w' fz Q' ts b o x
 | [],b,o,x,hb,hr=>by
   unfold REs RE2 at *
   obtain⟨u,h1,h2⟩:=hr
   exact⟨u,(hb 0 (Nat.le_refl _)).trans h1,hQ _ _ h2⟩
 | t::ts,b,o,x,hb,hr=>by
   unfold REs RE2 at *
   obtain⟨⟨u,h1,h2⟩,h3⟩:=hr
   exact⟨⟨u,(hb 0 (Nat.zero_le _)).trans h1,hQ _ _ h2⟩,CV h (fun x v=>og h (fun _ hb=>hb) t x v) ts b (o+1) x.2 (fun j hj=>by rw [show o+1+j=o+(j+1) from by omega];exact hb (j+1) (by simp;omega)) h3⟩
theorem Nu {w w':World} {fz:Nat→Prop} (h:Same fz w w') : ∀{sh:List aw} {b o:Nat} {x:El sh},(∀j,j<sh.length→w'.cell? ⟨b,o+j,none⟩=w.cell? ⟨b,o+j,none⟩)→RE w fz sh b o x→RE w' fz sh b o x
 | [],_,_,_,_,_=>by unfold RE;trivial
 | t::ts,b,o,x,hb,hr=>by
   unfold RE at *
   exact CV h (fun x v=>og h (fun _ hb=>hb) t x v) ts b o x (fun j hj=>hb j (by simp;omega)) hr
theorem On {w:World} {fz:Nat→Prop} {k:IntKind} {x:Int} {v:Value} : RA w fz (.i k) x v↔v=.int k x:=by
 have : ∀y:(aw.i k).Ty,RA w fz (.i k) y v↔v=.int k y:=fun y=>by unfold RA;exact Iff.rfl
 exact this x
theorem Ji {w:World} {fz:Nat→Prop} {x:Bool} {v:Value} : RA w fz .b x v↔v=.bool x:=by
 have : ∀y:aw.b.Ty,RA w fz .b y v↔v=.bool y:=fun y=>by unfold RA;exact Iff.rfl
 exact this x
theorem QT {w:World} {fz:Nat→Prop} {x:List UInt8} {v:Value} : RA w fz .s x v↔v=.string ⟨x.toArray⟩:=by
 have : ∀y:aw.s.Ty,RA w fz .s y v↔v=.string ⟨List.toArray y⟩:=fun y=>by unfold RA;exact Iff.rfl
 exact this x
theorem L7 {w:World} {fz:Nat→Prop} {sh sh':List aw} {M:List (El sh')} {M':List (El sh)} {v:Value} (hc:kE sh' sh M=some M') (h:SlR fz sh'.length (RE w fz sh') M v):SlR fz sh.length (RE w fz sh) M' v:=by
 unfold kE at hc
 split at hc
 ·rename_i hh _
  subst hh
  cases hc
  exact h
 ·cases hc
theorem Ez {w:World} {e:Env} {fz:Nat→Prop} (hz : ∀b,e.fz b→fz b) : ∀{t:aw} {v:PV} {x:t.Ty} {u:Value},un1 t v=some x→R w e v u→RA w fz t x u:=by
 intro t v x u h hr
 unfold un1 at h
 split at h
 ·split at h
  ·rename_i hk;subst hk;cases h;unfold R at hr;exact On.2 hr
  ·cases h
 ·cases h;unfold R at hr;exact Ji.2 hr
 ·cases h;unfold R at hr;exact Ji.2 hr
 ·cases h;unfold R at hr;exact Ji.2 hr
 ·cases h;unfold R at hr;exact QT.2 hr
 ·unfold R at hr
  unfold RA
  refine L7 h ?_
  obtain⟨a,c,h1,h2,h3⟩:=hr
  refine⟨a,c,h1,h2,fun i y hy=>?_⟩
  obtain⟨b,o,ha,hb,hp⟩:=h3 i y hy
  exact⟨b,o,ha,hz b hb,sf (fun _ _=>rfl) hz _ b _ y (fun _=>rfl) hp⟩
 ·cases h
  unfold R at hr
  unfold RA
  exact⟨none,0,hr,Nat.le_refl _,fun i y hy=>by simp at hy⟩
 ·cases h
theorem Lr {w:World} {fz:Nat→Prop} {x:Type} {Q:x→Value→Prop} {t:aw} {ts:List aw} {b o:Nat} {y:EL2 x (t::ts)} (h1:RE2 w Q b o y.1) (h2:REs w fz (RA w fz t) ts b (o+1) y.2):REs w fz Q (t::ts) b o y:=by unfold REs;exact⟨h1,h2⟩
theorem xe {x:Type} {f:PV→Option x} {t:aw} {ts:List aw} {vs:List PV} {y:EL2 x (t::ts)} (h:un2 f (t::ts) vs=some y) : ∃a c,f (hdP vs)=some a∧un2 (un1 t) ts (tlP vs)=some c∧y=(a,c):=by
 have e:un2 f (t::ts) vs=both (f (hdP vs)) (un2 (un1 t) ts (tlP vs)):=rfl
 rw [e] at h
 cases ha:f (hdP vs) with
 | none=>rw [ha] at h;cases h
 | some a=>
   cases hc:un2 (un1 t) ts (tlP vs) with
   | none=>rw [ha,hc] at h;cases h
   | some c=>
     rw [ha,hc] at h
     exact⟨a,c,rfl,rfl,(Option.some.inj h).symm⟩
theorem AZ {x:Type} {f:PV→Option x} {vs:List PV} {y:EL2 x []} (h:un2 f [] vs=some y) : ∃v,vs=[v]∧f v=some y:=by
 have e:un2 f [] vs=if Nat.beq vs.length 1 then f (hdP vs) else none:=rfl
 rw [e] at h
 split at h
 ·rename_i hl
  obtain⟨v,rfl⟩:=List.length_eq_one_iff.1 (Nat.eq_of_beq_eq_true hl)
  exact⟨v,rfl,h⟩
 ·cases h
theorem KP : ∀{ts:List aw} {x:Type} {f:PV→Option x} {y:EL2 x ts},¬un2 f ts []=some y:=by
 intro ts
 induction ts with
 | nil=>intro x f y h;obtain⟨v,h, -⟩:=AZ h;cases h
 | cons t ts ih=>intro x f y h;obtain⟨a,c, -,hc, -⟩:=xe h;exact ih hc
theorem Mb {w:World} {e:Env} {fz:Nat→Prop} (hz : ∀b,e.fz b→fz b) : ∀{ts:List aw} {y:Type} {f:PV→Option y} {Q:y→Value→Prop} (_ : ∀v x u,f v=some x→R w e v u→Q x u) {vs:List PV} {us:List Value} {x:EL2 y ts} {b o:Nat},un2 f ts vs=some x→Rs w e vs us→At w b o us→REs w fz Q ts b o x:=by
 intro ts
 induction ts with
 | nil=>
   intro y f Q hf vs us x b o h hr hat
   obtain⟨v,rfl,h⟩:=AZ h
   unfold Rs at hr
   obtain⟨u,us',rfl,h1, -⟩:=hr
   unfold REs RE2
   exact⟨u,by have:=hat 0 u rfl;rwa [Nat.add_zero] at this,hf _ _ _ h h1⟩
 | cons t ts ih=>
   intro y f Q hf vs us x b o h hr hat
   rcases vs with _ | ⟨v,vs⟩
   ·exact (KP h).elim
   ·obtain⟨a,c,ha,hc,rfl⟩:=xe h
    unfold Rs at hr
    obtain⟨u,us',rfl,h2,h3⟩:=hr
    refine Lr ⟨u,by have:=hat 0 u rfl;rwa [Nat.add_zero] at this,hf _ _ _ ha h2⟩ (ih (fun v x u=>Ez hz) hc h3 fun j u' hj=>by
    rw [show o+1+j=o+(j+1) from by omega]
    exact hat (j+1) u' (by simpa using hj))
theorem EC {w:World} {e:Env} {fz:Nat→Prop} (hz : ∀b,e.fz b→fz b) {sh:List aw} {vs:List PV} {us:List Value} {x:El sh} {b o:Nat} (h:unE sh vs=some x) (hr:Rs w e vs us) (hat:At w b o us):RE w fz sh b o x:=by
 cases sh with
 | nil=>unfold RE;trivial
 | cons t ts=>
   unfold RE
   unfold unE at h
   exact Mb hz (fun v x u=>Ez hz) h hr hat
theorem Dn {pre:List Prop} {id:Nat} (hlv:e.lv id) {sh:List aw} {L:List (El sh)} {b n:Nat} {vs:Array Value} {t:TypeId} {y:El sh} {ps:List PV} {us:List Value} (ho:e.on id) (hn:n<L.length) (hO:OR w e id (.own sh L t)) (ha:e.adr id=some ⟨b,0,none⟩) (hg:w.heap[b]? =some (.cells vs t (0,0)))
 (hy:unE sh ps=some y) (hps:Rs w e ps us) (hlen:us.length=sh.length) (hr:(execOp a.eval o).run P w=.ok .skip (w.setRow b (patch vs (n*sh.length) us))):dZ P o a w e nx ⟨pre,.tup [],[(id,.own sh (L.set n y) t)]⟩:=by
 unfold dZ Oper.wp
 rw [hr]
 obtain⟨h0,hO⟩:=hO
 obtain⟨b',vs',h1,hf,h3,h4,h5,h6⟩:=hO.resolve_left fun h=>by rw [ha] at h;cases h.1
 rw [ha] at h1
 cases h1
 rw [hg] at h3
 cases h3
 have hrow:=setRow_heap w b vs (patch vs (n*sh.length) us) t _ hg
 have hsame:Same e.fz w (w.setRow b (patch vs (n*sh.length) us)):=fun x hx=>by
  have : x≠b:=fun h=>hf (h ▸ hx)
  simp only [World.setRow,Array.getElem?_modify]
  rw [if_neg (by omega)]
 have hget : ∀k o',AH.get [(id,Ob.own sh (L.set n y) t)] k=some o'→k=id∧o'=.own sh (L.set n y) t:=fun k o' hk=>by
  unfold AH.get at hk
  split at hk
  ·rename_i hkk;exact⟨(by simpa using hkk:id=k).symm,by cases hk;rfl⟩
  ·cases hk
 have hcap:n*sh.length+sh.length≤vs.size:=by
  rw [h4]
  calc n*sh.length+sh.length=(n+1)*sh.length:=by rw [Nat.succ_mul]
   _≤e.cap id*sh.length:=Nat.mul_le_mul_right _ (by omega)
 refine⟨undef,e,rfl,?_,.refl e,.of fun _ h=>h,?_,fun k hk=>.inl hk,fun k hk=>.inl hk,fun k hk=>.inl hk,fun k _ _ h1 h2=>absurd h1 h2,?_⟩
 ·unfold R;exact⟨#[],rfl,by unfold Rs;rfl⟩
 ·intro k o' hk
  obtain⟨rfl,rfl⟩:=hget k o' hk
  refine⟨⟨by rw [List.length_set];exact h0,.inr ⟨b,_,ha,hf,hrow,by rw [dT];exact h4,by rw [List.length_set];exact h5,fun i x hx=>?_⟩⟩,ho,fun _=>hlv⟩
  rw [List.getElem?_set] at hx
  by_cases hni:n=i
  ·subst hni
   rw [if_pos rfl,if_pos hn] at hx
   cases hx
   refine EC (fun _ h=>h) hy (gD hsame (.refl e) ps us hps) fun j u hj=>?_
   have hjl:j<us.length:=(List.getElem?_eq_some_iff.1 hj).1
   rw [cell_of_row _ b _ _ t _ hrow,eS,if_pos ⟨by omega,by omega,by omega⟩,show n*sh.length+j-n*sh.length=j from by omega]
   exact hj
  ·rw [if_neg hni] at hx
   refine Nu hsame (fun j hj=>?_) (h6 i x hx)
   rw [cell_of_row _ b _ _ t _ hrow,cell_of_row _ b _ _ t _ hg,eS,if_neg]
   rintro ⟨q1,q2, -⟩
   rcases Nat.lt_or_gt_of_ne hni with hlt | hlt
   ·have : (n+1)*sh.length≤i*sh.length:=Nat.mul_le_mul_right _ hlt
    rw [Nat.succ_mul] at this
    omega
   ·have : (i+1)*sh.length≤n*sh.length:=Nat.mul_le_mul_right _ hlt
    rw [Nat.succ_mul] at this
    omega
 ·refine⟨rfl,rfl,rfl,by simp [World.setRow],fun x hx hM=>?_⟩
  have : x≠b:=fun h=>hM ⟨id,hlv,by simp [AH.get],_,ha,h.symm⟩
  simp only [World.setRow,Array.getElem?_modify]
  rw [if_neg (by omega)]
structure lO (w:World) (e:Env) (h:AH):Prop where
 ob : ∀id o,h.get id=some o→OR w e id o∧e.on id∧(o.gn=false→e.lv id)
 fz:FzW w e.fz
 dis : ∀k k' b,e.lv k→e.lv k'→e.blk k b→e.blk k' b→k=k'
structure Frz (w:World) (e:Env) (h:AH) (E:Env):Prop where
 le:e.Le E
 z : ∀id o b,h.get id=some o→o.gn=false→e.blk id b→E.fz b
def Env.all (e:Env) (w:World):Env:={ e with fz:=fun b=>b<w.heap.size }
theorem lO.le {h:AH} (hs:lO w e h):e.Le (e.all w):=⟨fun _ h=>h,fun _ _=>rfl,fun _ _=>rfl,fun _ _=>rfl,fun b hb=>hs.fz.lt b hb⟩
theorem Ih {l:List PV} {vs:Array Value} {b:Nat} {ty:TypeId} (hg:w.heap[b]? =some (.cells vs ty (0,0))) (hl:Rs w e l vs.toList):Rc w e b 0 l:=
 JP fun i p hp=>by
  obtain⟨u,h1,h2⟩:=mB hl hp
  refine⟨u,?_,h2⟩
  rw [Nat.zero_add,cell_of_row w b i vs ty _ hg]
  simpa using h1
theorem EK {fz fz':Nat→Prop} (hz : ∀b,fz b→fz' b) {sh:List aw} {b o:Nat} {x:El sh} (h:RE w fz sh b o x):RE w fz' sh b o x:=sf (fun _ _=>rfl) hz sh b o x (fun _=>rfl) h
theorem Hs {fz fz':Nat→Prop} {t:aw} (ht:gU [t]=true) {x:t.Ty} {v:Value} (h:RA w fz t x v):RA w fz' t x v:=by
 cases t with
 | r _=>simp [gU] at ht
 | _=>unfold RA at *;exact h
theorem C2 {fz fz':Nat→Prop} {y:Type} {Q Q':y→Value→Prop} (hQ : ∀x v,Q x v→Q' x v) : ∀{ts:List aw} {b o:Nat} {x:EL2 y ts},gU ts=true→REs w fz Q ts b o x→REs w fz' Q' ts b o x
 | [],b,o,x,_,h=>by
   unfold REs RE2 at *
   obtain⟨u,h1,h2⟩:=h
   exact⟨u,h1,hQ _ _ h2⟩
 | t::ts,b,o,x,hf,h=>by
   have hf2:gU [t]=true∧gU ts=true:=by cases t<;>simp [gU] at hf ⊢ <;>exact hf
   unfold REs RE2 at *
   obtain⟨⟨u,h1,h2⟩,h3⟩:=h
   exact⟨⟨u,h1,hQ _ _ h2⟩,C2 (fun x v=>Hs hf2.1) hf2.2 h3⟩
theorem Ga {fz fz':Nat→Prop} : ∀{sh:List aw} {b o:Nat} {x:El sh},gU sh=true→RE w fz sh b o x→RE w fz' sh b o x
 | [],_,_,_,_,_=>by unfold RE;trivial
 | t::ts,b,o,x,hf,h=>by
   have hf2:gU [t]=true∧gU ts=true:=by cases t<;>simp [gU] at hf ⊢ <;>exact hf
   unfold RE at *
   exact C2 (fun x v=>Hs hf2.1) hf2.2 h
theorem PB {fz:Nat→Prop} : ∀{k:aw} {x:k.Ty},k.flat=true→RA w fz k x (k.val x)
 | .i _,_,_=>by unfold RA;rfl
 | .b,_,_=>by unfold RA;rfl
 | .s,_,_=>by unfold RA;rfl
 | .r _,_,h=>by cases h
theorem Gn {fz:Nat→Prop} {k:aw} {x:k.Ty} {b o:Nat} (hk:k.flat=true) (h:w.cell? ⟨b,o,none⟩=some (k.val x)):RE w fz [k] b o x:=by
 unfold RE REs RE2
 exact⟨_,h,PB hk⟩
theorem ym {b:Nat} {vs:Array Value} {ty:TypeId} {fr:Nat×Nat} (h:w.heap[b]? =some (.cells vs ty fr)) (i:Nat):w.cell? ⟨b,i,none⟩=vs[i]? :=by simp [World.cell?,h]
mutual
theorem yB {h:AH} {E:Env} (hs:lO w e h) (hE:Frz w e h E) : ∀(n:Nat) (p:PV) (v:Value),R w e p v→R w E (deep h n p) v
 | 0,p,v,hr=>by unfold deep;exact jt (fun _ _=>rfl) hE.le p v hr
 | n+1,p,v,hr=>by
   unfold deep
   split
   ·rename_i n' id off h1
    obtain rfl:n=n':=by simpa using h1
    split
    ·rename_i l ty hg
     unfold R at hr
     obtain⟨_,b,h2,rfl⟩:=hr
     obtain⟨⟨b',vs,h3,h4,h5,h6⟩,_⟩:=hs.ob _ _ hg
     rw [h2] at h3
     cases h3
     unfold R
     exact⟨b,0,by rw [Nat.zero_add],hE.z _ _ b hg rfl ⟨_,h2,rfl⟩,Ih h5 (jU hs hE n l _ h6)⟩
    ·unfold R;trivial
   ·rename_i id _
    split
    ·rename_i sh L ty hg
     unfold R at hr
     obtain⟨_,rfl⟩:=hr
     obtain⟨⟨h0,h3⟩,_⟩:=hs.ob _ _ hg
     unfold R
     rcases h3 with ⟨h4,rfl,h5⟩ | ⟨b,vs,h4,h5,h6,h7,h8,h9⟩
     ·exact⟨_,_,by rw [h0],by rw [h5];exact Nat.le_refl _,fun i x hx=>by simp at hx⟩
     ·refine⟨_,_,by rw [h0],h8.1,fun i x hx=>⟨b,0,h4,hE.z _ _ b hg rfl ⟨_,h4,rfl⟩,?_⟩⟩
      rw [Nat.zero_add]
      exact EK hE.le.fz (h9 i x hx)
    ·rename_i k L ty hg
     unfold R at hr
     obtain⟨_,rfl⟩:=hr
     obtain⟨⟨q,h0,b,vs,fr,h1,h2,h3,h4,h5,h6,h7,h8⟩,_⟩:=hs.ob _ _ hg
     unfold R
     refine⟨_,_,by rw [h0],h5,fun i x hx=>⟨b,0,h1,hE.z _ _ b hg rfl ⟨_,h1,rfl⟩,?_⟩⟩
     rw [Nat.zero_add]
     refine Gn q ?_
     rw [ym h3,show i * [k].length =i from by simp]
     exact h8 i x hx
    ·unfold R;trivial
   ·unfold R;trivial
   ·unfold R;trivial
   ·rename_i n' l h1
    obtain rfl:n=n':=by simpa using h1
    unfold R at *
    obtain⟨vs,rfl,h2⟩:=hr
    exact⟨vs,rfl,jU hs hE n l _ h2⟩
   ·rename_i n' l h1
    obtain rfl:n=n':=by simpa using h1
    unfold R at *
    obtain⟨vs,rfl,h2⟩:=hr
    exact⟨vs,rfl,jU hs hE n l _ h2⟩
   ·rename_i n' f l h1
    obtain rfl:n=n':=by simpa using h1
    unfold R at *
    obtain⟨vs,rfl,h2⟩:=hr
    exact⟨vs,rfl,jU hs hE n l _ h2⟩
   ·exact jt (fun _ _=>rfl) hE.le _ v hr
theorem jU {h:AH} {E:Env} (hs:lO w e h) (hE:Frz w e h E) : ∀(n:Nat) (l:List PV) (vs:List Value),Rs w e l vs→Rs w E (eK h n l) vs
 | _,[],vs,hr=>by unfold eK;unfold Rs at *;exact hr
 | 0,p::ps,vs,hr=>by unfold eK;exact gD (fun _ _=>rfl) hE.le _ vs hr
 | n+1,p::ps,vs,hr=>by
   unfold eK
   unfold Rs at *
   obtain⟨u,us,h1,h2,h3⟩:=hr
   exact⟨u,us,h1,yB hs hE n p u h2,jU hs hE (n+1) ps us h3⟩
end
theorem QE {c:Cx} {t:TypeId} {p:PV} {v:Value} (hr:R w e p v):R w e (trim c t p) v:=by
 unfold trim
 split
 ·split
  ·split
   ·unfold R at *
    obtain⟨b,o,rfl,h2,h3⟩:=hr
    refine⟨b,o+_,by rw [Nat.add_zero],h2,JP fun i q hq=>?_⟩
    rw [List.getElem?_take] at hq
    split at hq
    ·rw [List.getElem?_drop] at hq
     obtain⟨u,h4,h5⟩:=Kn h3 hq
     exact⟨u,by rw [show o+_+i=o+(_+i) from Nat.add_assoc ..];exact h4,h5⟩
    ·cases hq
   ·exact hr
  ·exact hr
 ·split
  ·unfold R at *
   exact⟨none,0,hr,Nat.le_refl _,fun i x hx=>by simp at hx⟩
  ·exact hr
 ·exact hr
theorem mP {c:Cx} : ∀{ts:List TypeId} {l:List PV} {vs:List Value},Rs w e l vs→Rs w e (pj c ts l) vs
 | [],l,vs,h=>by unfold pj;exact h
 | t::ts,[],vs,h=>by unfold pj;exact h
 | t::ts,p::ps,vs,h=>by
   unfold pj
   unfold Rs at *
   obtain⟨u,us,h1,h2,h3⟩:=h
   exact⟨u,us,h1,QE h2,mP h3⟩
structure Sh (n:Nat→Nat) (e e':Env):Prop where
 on : ∀k,e.on k→e'.on (n k)
 adr : ∀k,e.on k→e'.adr (n k)=e.adr k
 cap : ∀k,e.on k→e'.cap (n k)=e.cap k
 len : ∀k,e.on k→e'.len (n k)=e.len k
mutual
theorem Bl {n:Nat→Nat} {e e':Env} (hs:Sh n e e') : ∀(p:PV) (v:Value),(∀b,e.fz b→e'.fz b)∨p.ro=false→R w e p v→R w e' (p.rn n) v
 | .bt,_,_,hr=>by unfold PV.rn;unfold R at *;exact hr
 | .bf,_,_,hr=>by unfold PV.rn;unfold R at *;exact hr
 | .b _,_,_,hr=>by unfold PV.rn;unfold R at *;exact hr
 | .nb _,_,_,hr=>by unfold PV.rn;unfold R at *;exact hr
 | .i _ _,_,_,hr=>by unfold PV.rn;unfold R at *;exact hr
 | .s _,_,_,hr=>by unfold PV.rn;unfold R at *;exact hr
 | .ptr id off,v,_,hr=>by unfold PV.rn;unfold R at *;obtain⟨hi,b,h1,h2⟩:=hr;exact⟨hs.on id hi,b,by rw [hs.adr id hi];exact h1,h2⟩
 | .nilp,_,_,hr=>by unfold PV.rn;unfold R at *;exact hr
 | .rptr cs off,v,hz,hr=>by
   unfold PV.rn
   rcases hz with hz | hz
   ·unfold R at *;obtain⟨b,o,h1,h2,h3⟩:=hr;exact⟨b,o,h1,hz b h2,DG hs cs b o hz h3⟩
   ·unfold PV.ro at hz;cases hz
 | .rsl sh L,v,hz,hr=>by
   unfold PV.rn
   rcases hz with hz | hz
   ·unfold R at *
    obtain⟨a,c,h1,h2,h3⟩:=hr
    refine⟨a,c,h1,h2,fun i y hy=>?_⟩
    obtain⟨b,o,ha,hb,hp⟩:=h3 i y hy
    exact⟨b,o,ha,hz b hb,EK hz hp⟩
   ·unfold PV.ro at hz;cases hz
 | .osl id,v,_,hr=>by unfold PV.rn;unfold R at *;obtain⟨hi,hr⟩:=hr;exact⟨hs.on id hi,by rw [hs.adr id hi,hs.cap id hi,hs.len id hi];exact hr⟩
 | .eptr id ix st off,v,_,hr=>by unfold PV.rn;unfold R at *;obtain⟨hi,b,h1,h2⟩:=hr;exact⟨hs.on id hi,b,by rw [hs.adr id hi];exact h1,h2⟩
 | .osub id lo,v,_,hr=>by unfold PV.rn;unfold R at *;obtain⟨hi,h0,h1,h2⟩:=hr;exact⟨hs.on id hi,h0,by rw [hs.len id hi];exact h1,by rw [hs.adr id hi,hs.cap id hi,hs.len id hi];exact h2⟩
 | .esl,_,_,hr=>by unfold PV.rn;unfold R at *;exact hr
 | .agg l,v,hz,hr=>by unfold PV.rn;unfold PV.ro at hz;unfold R at *;obtain⟨vs,h1,h2⟩:=hr;exact⟨vs,h1,oI hs l _ hz h2⟩
 | .tup l,v,hz,hr=>by unfold PV.rn;unfold PV.ro at hz;unfold R at *;obtain⟨vs,h1,h2⟩:=hr;exact⟨vs,h1,oI hs l _ hz h2⟩
 | .fn f l,v,hz,hr=>by unfold PV.rn;unfold PV.ro at hz;unfold R at *;obtain⟨vs,h1,h2⟩:=hr;exact⟨vs,h1,oI hs l _ hz h2⟩
 | .arr _ _ _,_,_,hr=>by unfold PV.rn;unfold R at *;exact hr
 | .nx _ _,_,_,hr=>by unfold PV.rn;unfold R at *;exact hr
 | .raw _,_,_,hr=>by unfold PV.rn;unfold R at *;exact hr
 | .dead,_,_,_=>by unfold PV.rn;unfold R;trivial
theorem oI {n:Nat→Nat} {e e':Env} (hs:Sh n e e') : ∀(l:List PV) (vs:List Value),(∀b,e.fz b→e'.fz b)∨roL l=false→Rs w e l vs→Rs w e' (rnL n l) vs
 | [],_,_,hr=>by unfold rnL;unfold Rs at *;exact hr
 | p::ps,vs,hz,hr=>by
   unfold rnL
   unfold roL at hz
   unfold Rs at *
   obtain⟨u,us,h1,h2,h3⟩:=hr
   exact⟨u,us,h1,Bl hs p u (hz.imp id fun h=>by rw [Bool.or_eq_false_iff] at h;exact h.1) h2,oI hs ps us (hz.imp id fun h=>by rw [Bool.or_eq_false_iff] at h;exact h.2) h3⟩
theorem DG {n:Nat→Nat} {e e':Env} (hs:Sh n e e') : ∀(l:List PV) (b o:Nat),(∀b,e.fz b→e'.fz b)→Rc w e b o l→Rc w e' b o (rnL n l)
 | [],_,_,_,_=>by unfold rnL Rc;trivial
 | p::ps,b,o,hz,hr=>by
   unfold rnL
   unfold Rc at *
   obtain⟨⟨u,h1,h2⟩,h3⟩:=hr
   exact⟨⟨u,h1,Bl hs p u (.inl hz) h2⟩,DG hs ps b (o+1) hz h3⟩
end
theorem pY {n:Nat→Nat} : ∀{h:AH} {k:Nat} {o:Ob},(rnH n h).get k=some o→∃k' o',k=n k'∧h.get k'=some o'∧o=o'.rn n∧(roH h=false→match o' with | .cells l _=>roL l=false | .own sh _ _=>gU sh=true | _=>True)
 | [],k,o,h=>by unfold rnH at h;simp [AH.get] at h
 | (j,x)::r,k,o,h=>by
   unfold rnH at h
   simp only [AH.get] at h ⊢
   by_cases hk:n j=k
   ·subst hk
    simp only [BEq.rfl,if_true,Option.some.injEq] at h
    subst h
    refine⟨j,x,rfl,by simp,rfl,fun hr=>?_⟩
    cases x
    ·unfold roH at hr;rw [Bool.or_eq_false_iff] at hr;exact hr.1
    ·unfold roH at hr;simp only [Bool.or_eq_false_iff,Bool.not_eq_false'] at hr;exact hr.1
    ·trivial
    ·trivial
    ·trivial
   ·rw [if_neg (by simpa using hk)] at h
    obtain⟨k',o',rfl,h2,h3,h4⟩:=pY h
    refine⟨k',o',rfl,?_,h3,fun hr=>h4 (by cases x<;>(unfold roH at hr;first | exact hr | (rw [Bool.or_eq_false_iff] at hr;exact hr.2)))⟩
    rw [if_neg (by simp only [beq_iff_eq];exact fun hh=>hk (by rw [hh]))]
    exact h2
theorem s6 {n:Nat→Nat} : ∀{h:AH} {k:Nat},(h.get k).isSome =true→((rnH n h).get (n k)).isSome =true
 | [],k,h=>by simp [AH.get] at h
 | (j,x)::r,k,h=>by
   unfold rnH
   simp only [AH.get] at h ⊢
   by_cases hk:j=k
   ·subst hk;simp
   ·rw [if_neg (by simpa using hk)] at h
    split
    ·rfl
    ·exact s6 h
mutual
theorem Pw {w:World} {e:Env} : ∀(p:PV) (v:Value),R w e p v→R w e p.nrm v
 | .bt,_,hr=>by unfold PV.nrm;unfold R at *;exact hr
 | .bf,_,hr=>by unfold PV.nrm;unfold R at *;exact hr
 | .nb _,_,hr=>by unfold PV.nrm;unfold R at *;exact hr
 | .rptr cs off,v,hr=>by unfold PV.nrm;unfold R at *;obtain⟨b,o,h1,h2,h3⟩:=hr;exact⟨b,o,h1,h2,JX cs b o h3⟩
 | .agg l,v,hr=>by unfold PV.nrm;unfold R at *;obtain⟨vs,h1,h2⟩:=hr;exact⟨vs,h1,kx l _ h2⟩
 | .tup l,v,hr=>by unfold PV.nrm;unfold R at *;obtain⟨vs,h1,h2⟩:=hr;exact⟨vs,h1,kx l _ h2⟩
 | .b _,_,hr | .i _ _,_,hr | .s _,_,hr | .ptr _ _,_,hr | .nilp,_,hr | .esl,_,hr | .rsl _ _,_,hr | .osl _,_,hr | .eptr _ _ _ _,_,hr | .osub _ _,_,hr | .fn _ _,_,hr | .arr _ _ _,_,hr | .nx _ _,_,hr | .raw _,_,hr | .dead,_,hr=>by unfold PV.nrm;exact hr
theorem kx {w:World} {e:Env} : ∀(l:List PV) (vs:List Value),Rs w e l vs→Rs w e (nd l) vs
 | [],_,hr=>by unfold nd;exact hr
 | p::ps,vs,hr=>by
   unfold nd
   unfold Rs at *
   obtain⟨u,us,h1,h2,h3⟩:=hr
   exact⟨u,us,h1,Pw p u h2,kx ps us h3⟩
theorem JX {w:World} {e:Env} : ∀(l:List PV) (b o:Nat),Rc w e b o l→Rc w e b o (nd l)
 | [],_,_,hr=>by unfold nd;exact hr
 | p::ps,b,o,hr=>by
   unfold nd
   unfold Rc at *
   obtain⟨⟨u,h1,h2⟩,h3⟩:=hr
   exact⟨⟨u,h1,Pw p u h2⟩,JX ps b (o+1) h3⟩
end
theorem Sd {w:World} {e:Env} {id:Nat} {o:Ob} (h:OR w e id o):OR w e id o.nrm:=by
 cases o with
 | cells l ty=>obtain⟨b,vs,h1,h2,h3,h4⟩:=h;exact⟨b,vs,h1,h2,h3,kx l _ h4⟩
 | own sh L ty=>exact h
 | arr k n L ty=>exact h
 | it l k=>exact h
 | gone=>exact h
theorem mz {n:Nat→Nat} (o:Ob):(o.rn n).gn =o.gn:=by cases o<;>rfl
theorem Jz {n:Nat→Nat} {k:Nat} : ∀{h:AH} {o:Ob},(∀j,(h.get j).isSome =true→n j=n k→j=k)→h.get k=some o→(rnH n h).get (n k)=some (o.rn n)
 | [],o,_,h=>by simp [AH.get] at h
 | (j,x)::r,o,hi,h=>by
   unfold rnH
   simp only [AH.get] at h ⊢
   by_cases hk:j=k
   ·subst hk
    rw [if_pos (by simp)] at h ⊢
    cases h;rfl
   ·rw [if_neg (by simpa using hk)] at h
    rw [if_neg (by simp only [beq_iff_eq];exact fun hh=>hk (hi j (by simp [AH.get]) hh))]
    refine Jz (fun i h1 h2=>hi i ?_ h2) h
    simp only [AH.get]
    split
    ·rfl
    ·exact h1
theorem pC : ∀{r:List Nat} {k:Nat},k∈r→idx r k<r.length∧look r (idx r k)=k
 | [],k,h=>by simp at h
 | x::r,k,h=>by
   unfold idx
   split
   ·rename_i hx
    exact⟨by simp,by simpa [look] using Nat.eq_of_beq_eq_true hx⟩
   ·rename_i hx
    have hk:k∈r:=by
     rcases List.mem_cons.1 h with rfl | h
     ·exact absurd (by simp) hx
     ·exact h
    obtain⟨h1,h2⟩:=pC hk
    exact⟨by simpa using h1,by simpa [look] using h2⟩
mutual
theorem Nj {r:List Nat} : ∀p:PV,p.idIn r=true→(p.rn (idx r)).rn (look r)=p∧(p.rn (idx r)).idIn (List.range r.length)=true
 | .bt,_ | .bf,_ | .b _,_ | .nb _,_ | .i _ _,_ | .s _,_ | .nilp,_ | .esl,_ | .rsl _ _,_ | .arr _ _ _,_ | .nx _ _,_ | .raw _,_ | .dead,_=>by simp [PV.rn,PV.idIn]
 | .ptr id off,h=>by unfold PV.idIn at h;obtain⟨h1,h2⟩:=pC (by simpa using h:id∈r);exact⟨by simp only [PV.rn,h2],by simp only [PV.rn,PV.idIn,List.contains_eq_mem,decide_eq_true_eq,List.mem_range];exact h1⟩
 | .osl id,h=>by unfold PV.idIn at h;obtain⟨h1,h2⟩:=pC (by simpa using h:id∈r);exact⟨by simp only [PV.rn,h2],by simp only [PV.rn,PV.idIn,List.contains_eq_mem,decide_eq_true_eq,List.mem_range];exact h1⟩
 | .eptr id ix st off,h=>by unfold PV.idIn at h;obtain⟨h1,h2⟩:=pC (by simpa using h:id∈r);exact⟨by simp only [PV.rn,h2],by simp only [PV.rn,PV.idIn,List.contains_eq_mem,decide_eq_true_eq,List.mem_range];exact h1⟩
 | .osub id lo,h=>by unfold PV.idIn at h;obtain⟨h1,h2⟩:=pC (by simpa using h:id∈r);exact⟨by simp only [PV.rn,h2],by simp only [PV.rn,PV.idIn,List.contains_eq_mem,decide_eq_true_eq,List.mem_range];exact h1⟩
 | .rptr l o,h=>by unfold PV.idIn at h;obtain⟨h1,h2⟩:=lG l h;exact⟨by simp only [PV.rn,h1],by simp only [PV.rn,PV.idIn];exact h2⟩
 | .agg l,h=>by unfold PV.idIn at h;obtain⟨h1,h2⟩:=lG l h;exact⟨by simp only [PV.rn,h1],by simp only [PV.rn,PV.idIn];exact h2⟩
 | .tup l,h=>by unfold PV.idIn at h;obtain⟨h1,h2⟩:=lG l h;exact⟨by simp only [PV.rn,h1],by simp only [PV.rn,PV.idIn];exact h2⟩
 | .fn f l,h=>by unfold PV.idIn at h;obtain⟨h1,h2⟩:=lG l h;exact⟨by simp only [PV.rn,h1],by simp only [PV.rn,PV.idIn];exact h2⟩
theorem lG {r:List Nat} : ∀l:List PV,cP r l=true→rnL (look r) (rnL (idx r) l)=l∧cP (List.range r.length) (rnL (idx r) l)=true
 | [],_=>by simp [rnL,cP]
 | p::ps,h=>by
   unfold cP at h
   rw [Bool.and_eq_true] at h
   obtain⟨h1,h2⟩:=Nj p h.1
   obtain⟨h3,h4⟩:=lG ps h.2
   exact⟨by simp only [rnL,h1,h3],by simp only [rnL,cP,h2,h4,Bool.and_self]⟩
end
theorem K0 {r:List Nat} {o:Ob} (h:o.idIn r=true):(o.rn (idx r)).rn (look r)=o∧(o.rn (idx r)).idIn (List.range r.length)=true:=by
 cases o with
 | cells l ty=>obtain⟨h1,h2⟩:=lG l h;exact⟨by simp only [Ob.rn,h1],h2⟩
 | own sh L ty=>exact⟨rfl,rfl⟩
 | arr k n L ty=>exact⟨rfl,rfl⟩
 | it l k=>exact⟨rfl,rfl⟩
 | gone=>exact⟨rfl,rfl⟩
theorem zJ {h:AH} {ρ:List Nat} : ∀(r:List Nat) (n:Nat),(∀k∈r,(h.get k).isSome =true)→(yX h ρ n r).length =r.length∧∀id o,(yX h ρ n r).get id=some o→∃j x,id=n+j∧j<r.length∧h.get (r.getD j 0)=some x∧o=(x.rn (idx ρ)).nrm
 | [],n,_=>⟨rfl,fun id o hh=>by simp [yX,AH.get] at hh⟩
 | k::r,n,hr=>by
   obtain⟨x,hx⟩:=Option.isSome_iff_exists.1 (hr k (by simp))
   obtain⟨h1,h2⟩:=zJ (ρ:=ρ) r (n+1) fun k hk=>hr k (by simp [hk])
   unfold yX
   rw [hx]
   refine⟨by simp [h1],fun id o hh=>?_⟩
   unfold AH.get at hh
   split at hh
   ·rename_i hk
    cases hh
    exact⟨0,x,by simpa using (by simpa using hk:n=id).symm,by simp,by simpa using hx,rfl⟩
   ·obtain⟨j,y,rfl,h3,h4,h5⟩:=h2 id o hh
    exact⟨j+1,y,by omega,by simpa using h3,by simpa using h4,h5⟩
section
variable {w:World} {e e':Env}
structure Rn (ρ:Nat→Nat) (K:List Nat) (e e':Env):Prop where
 on : ∀k,k∈K→e.on (ρ k)→e'.on k
 adr : ∀k,e'.adr k=e.adr (ρ k)
 cap : ∀k,e'.cap k=e.cap (ρ k)
 len : ∀k,e'.len k=e.len (ρ k)
 fz:e'.fz=e.fz
mutual
theorem yK {ρ:Nat→Nat} {K:List Nat} (h:Rn ρ K e e') : ∀(p:PV) (v:Value),p.idIn K=true→R w e (p.rn ρ) v→R w e' p v
 | .bt,_,_,hr=>by unfold PV.rn at hr;unfold R at *;exact hr
 | .bf,_,_,hr=>by unfold PV.rn at hr;unfold R at *;exact hr
 | .b _,_,_,hr=>by unfold PV.rn at hr;unfold R at *;exact hr
 | .nb _,_,_,hr=>by unfold PV.rn at hr;unfold R at *;exact hr
 | .i _ _,_,_,hr=>by unfold PV.rn at hr;unfold R at *;exact hr
 | .s _,_,_,hr=>by unfold PV.rn at hr;unfold R at *;exact hr
 | .ptr id off,v,hi,hr=>by
   unfold PV.rn at hr
   unfold PV.idIn at hi
   unfold R at *
   obtain⟨h0,b,h1,h2⟩:=hr
   exact⟨h.on id (by simpa using hi) h0,b,by rw [h.adr];exact h1,h2⟩
 | .nilp,_,_,hr=>by unfold PV.rn at hr;unfold R at *;exact hr
 | .rptr cs off,v,hi,hr=>by
   unfold PV.rn at hr
   unfold PV.idIn at hi
   unfold R at *
   obtain⟨b,o,h1,h2,h3⟩:=hr
   exact⟨b,o,h1,by rw [h.fz];exact h2,Pa h cs b o hi h3⟩
 | .rsl sh L,v,_,hr=>by unfold PV.rn at hr;unfold R at *;rw [h.fz];exact hr
 | .osl id,v,hi,hr=>by
   unfold PV.rn at hr
   unfold PV.idIn at hi
   unfold R at *
   obtain⟨h0,hr⟩:=hr
   exact⟨h.on id (by simpa using hi) h0,by rw [h.adr,h.cap,h.len];exact hr⟩
 | .eptr id ix st off,v,hi,hr=>by
   unfold PV.rn at hr
   unfold PV.idIn at hi
   unfold R at *
   obtain⟨h0,b,h1,h2⟩:=hr
   exact⟨h.on id (by simpa using hi) h0,b,by rw [h.adr];exact h1,h2⟩
 | .osub id lo,v,hi,hr=>by
   unfold PV.rn at hr
   unfold PV.idIn at hi
   unfold R at *
   obtain⟨h0,h1,h2,h3⟩:=hr
   exact⟨h.on id (by simpa using hi) h0,h1,by rw [h.len];exact h2,by rw [h.adr,h.cap,h.len];exact h3⟩
 | .esl,_,_,hr=>by unfold PV.rn at hr;unfold R at *;exact hr
 | .agg l,v,hi,hr=>by unfold PV.rn at hr;unfold PV.idIn at hi;unfold R at *;obtain⟨vs,h1,h2⟩:=hr;exact⟨vs,h1,th h l _ hi h2⟩
 | .tup l,v,hi,hr=>by unfold PV.rn at hr;unfold PV.idIn at hi;unfold R at *;obtain⟨vs,h1,h2⟩:=hr;exact⟨vs,h1,th h l _ hi h2⟩
 | .fn f l,v,hi,hr=>by unfold PV.rn at hr;unfold PV.idIn at hi;unfold R at *;obtain⟨vs,h1,h2⟩:=hr;exact⟨vs,h1,th h l _ hi h2⟩
 | .arr _ _ _,_,_,hr=>by unfold PV.rn at hr;unfold R at *;exact hr
 | .nx _ _,_,_,hr=>by unfold PV.rn at hr;unfold R at *;exact hr
 | .raw _,_,_,hr=>by unfold PV.rn at hr;unfold R at *;exact hr
 | .dead,_,_,_=>by unfold R;trivial
theorem th {ρ:Nat→Nat} {K:List Nat} (h:Rn ρ K e e') : ∀(l:List PV) (vs:List Value),cP K l=true→Rs w e (rnL ρ l) vs→Rs w e' l vs
 | [],_,_,hr=>by unfold rnL at hr;unfold Rs at *;exact hr
 | p::ps,vs,hi,hr=>by
   unfold rnL at hr
   unfold cP at hi
   rw [Bool.and_eq_true] at hi
   unfold Rs at *
   obtain⟨u,us,h1,h2,h3⟩:=hr
   exact⟨u,us,h1,yK h p u hi.1 h2,th h ps us hi.2 h3⟩
theorem Pa {ρ:Nat→Nat} {K:List Nat} (h:Rn ρ K e e') : ∀(l:List PV) (b o:Nat),cP K l=true→Rc w e b o (rnL ρ l)→Rc w e' b o l
 | [],_,_,_,_=>by unfold Rc;trivial
 | p::ps,b,o,hi,hr=>by
   unfold rnL at hr
   unfold cP at hi
   rw [Bool.and_eq_true] at hi
   unfold Rc at *
   obtain⟨⟨u,h1,h2⟩,h3⟩:=hr
   exact⟨⟨u,h1,yK h p u hi.1 h2⟩,Pa h ps b (o+1) hi.2 h3⟩
end
theorem yo {ρ:Nat→Nat} {K:List Nat} (h:Rn ρ K e e') {id:Nat} {o:Ob} (hi:o.idIn K=true) (hr:OR w e (ρ id) (o.rn ρ)):OR w e' id o:=by
 cases o with
 | cells l ty=>
   obtain⟨b,vs,h1,h2,h3,h4⟩:=hr
   exact⟨b,vs,by rw [h.adr];exact h1,by rw [h.fz];exact h2,h3,th h l _ hi h4⟩
 | own sh L ty=>
   obtain⟨h0,hr⟩:=hr
   refine⟨by rw [h.len];exact h0,?_⟩
   rw [h.adr,h.cap,h.fz]
   exact hr
 | arr k n L ty=>
   obtain⟨q,h0,hr⟩:=hr
   refine⟨q,by rw [h.len];exact h0,?_⟩
   rw [h.adr,h.cap,h.fz]
   exact hr
 | it l k=>
   obtain⟨q1,q2,b,h1,h2,h3⟩:=hr
   exact⟨q1,q2,b,by rw [h.adr];exact h1,by rw [h.fz];exact h2,h3⟩
 | gone=>trivial
def Env.rn (e:Env) (ρ:Nat→Nat) (n:Nat):Env:={ adr:=fun k=>e.adr (ρ k),cap:=fun k=>e.cap (ρ k),len:=fun k=>e.len (ρ k),fz:=e.fz,on:=fun k=>k<n∧e.on (ρ k),lv:=fun k=>k<n∧e.lv (ρ k) }
theorem Env.rn_ok (e:Env) (ρ:Nat→Nat) (n:Nat):Rn ρ (List.range n) e (e.rn ρ n):=⟨fun _ hk h=>⟨List.mem_range.1 hk,h⟩,fun _=>rfl,fun _=>rfl,fun _=>rfl,rfl⟩
theorem DC : ∀{l:List Nat},nodupB l=true→l.Nodup
 | [],_=>List.nodup_nil
 | x::r,h=>by
   unfold nodupB at h
   simp only [Bool.and_eq_true,Bool.not_eq_true',List.contains_eq_mem,decide_eq_false_iff_not] at h
   exact List.nodup_cons.2 ⟨h.1,DC h.2⟩
theorem iA {ρ:List Nat} (h:nodupB ρ=true) {i j:Nat} (hi:i<ρ.length) (hj:j<ρ.length) (hij:look ρ i=look ρ j):i=j:=by
 unfold look at hij
 rw [List.getD_eq_getElem?_getD,List.getD_eq_getElem?_getD,List.getElem?_eq_getElem hi,List.getElem?_eq_getElem hj] at hij
 exact (List.getElem_inj (DC h)).1 hij
theorem rA {id:Nat} {ob:Ob} (hgn:ob.gn=false) (h:OR w e id ob) : ∀b,e.blk id b→b<w.heap.size:=by
 rintro b ⟨x,hx,rfl⟩
 cases ob with
 | cells l ty=>obtain⟨b,vs,h1, -,h3, -⟩:=h;rw [h1] at hx;cases hx;exact nt h3
 | own sh L ty=>
   obtain⟨-,h⟩:=h
   rcases h with ⟨h1, -⟩ | ⟨b,vs,h1, -,h3, -⟩
   ·rw [h1] at hx;cases hx
   ·rw [h1] at hx;cases hx;exact nt h3
 | arr k n L ty=>obtain⟨-, -,b,vs,fr,h1, -,h3, -⟩:=h;rw [h1] at hx;cases hx;exact nt h3
 | it l k=>obtain⟨-, -,b,h1, -,h3⟩:=h;rw [h1] at hx;cases hx;exact nt h3
 | gone=>cases hgn
theorem O1 {id:Nat} {ob:Ob} (hgn:ob.gn=false) (h:OR w e id ob) : ∀b,e.blk id b→¬e.fz b:=by
 rintro b ⟨x,hx,rfl⟩
 cases ob with
 | cells l ty=>obtain⟨b,vs,h1,h2,h3, -⟩:=h;rw [h1] at hx;cases hx;exact h2
 | own sh L ty=>
   obtain⟨-,h⟩:=h
   rcases h with ⟨h1, -⟩ | ⟨b,vs,h1,h2,h3, -⟩
   ·rw [h1] at hx;cases hx
   ·rw [h1] at hx;cases hx;exact h2
 | arr k n L ty=>obtain⟨-, -,b,vs,fr,h1,h2, -⟩:=h;rw [h1] at hx;cases hx;exact h2
 | it l k=>obtain⟨-, -,b,h1,h2, -⟩:=h;rw [h1] at hx;cases hx;exact h2
 | gone=>cases hgn
end
end
end Ax
namespace RegL
open RegP
section
variable {P:Program} {ops:Array Oper} {Q:Exit→Act→World→Prop} {S:(Nat→Bool)→World→Prop}
def upd (L:Nat→Bool) (i:Nat):Nat→Bool:=fun j=>decide (j=i)||L j
theorem pp (L:Nat→Bool) (i:Nat):upd L i i=true:=by simp [upd]
theorem tQ (L:Nat→Bool) {i j:Nat} (h:j≠i):upd L i j=L j:=by simp [upd,h]
inductive Anc (ops:Array Oper):Nat→Nat→Prop
 | one {j k:Nat} {o:Oper} : ops[k]? =some o→j∈cS o→Anc ops j k
 | more {j m k:Nat} {o:Oper} : ops[k]? =some o→m∈cS o→Anc ops j m→Anc ops j k
end
def S2 (a b c:Nat) (W W1 W2:World) (L:Nat→Bool) (w:World):Prop:=
 (L a=true∧L b=true∧L c=true∧w=W2)∨(L a=false∧L c=true∧w=W1)∨(L a=false∧L c=false∧w=W)
section
variable {a b c i:Nat} {W W1 W2 w:World} {L:Nat→Bool}
end
end RegL
end Go.Proofs.YtjjonmhpgkahoaaGreatDoor
namespace Go.Proofs.YtjjonmhpgkahoaaGreatDoor
open Go.RowKit Go.Shelf
set_option maxRecDepth 100000
namespace Ax
theorem Qg {W:World} (h:W.ShapedOpen Tryz.prog) : ∃m:Int,W.cell? ⟨1,0,none⟩=some (.int .i64 m):=
 cell_of_shapedOpen_int (g:=1) (t:=3) (zero:=#[.int .i64 0]) (k:=.i64) h (of_decide_eq_true (by kernel_rfl)) (by kernel_rfl) rfl (by kernel_rfl) (by kernel_rfl) Tryz.underlying3
theorem Ss {W:World} {l:List (String×DataW Unit)} (h:laidMet Tryz.prog l W) (h4:l.filter (fun x=>x.1=="internal/strconv.uint64pow10")=[("internal/strconv.uint64pow10",Lib.tabData .u64 Lib.pow10Tab)]):Lib.TabIs Tryz.prog W "internal/strconv.uint64pow10" .u64 Lib.pow10Tab:=by
 have h2:=laidMet.filter (fun x=>x.1=="internal/strconv.uint64pow10") h
 rw [h4] at h2
 exact Lib.tabIs_of_head (g:=0) (t:=306) (e:=157) (n:=20) (by kernel_rfl) (by kernel_rfl) Tryz.underlying306 Tryz.underlying157 (by kernel_rfl) (by kernel_rfl) h2
theorem SV {W:World} (hsh:W.ShapedOpen Tryz.prog) {l:List (String×DataW Unit)} (h:laidMet Tryz.prog l W) (h1:("unicode.CaseRanges",Pinned.caseRanges)∈l) (h2:("unicode/utf8.first",Pinned.utf8First)∈l) (h3:("unicode/utf8.acceptRanges",Lib.acceptData)∈l) (h4:l.filter (fun x=>x.1=="internal/strconv.uint64pow10")=[("internal/strconv.uint64pow10",Lib.tabData .u64 Lib.pow10Tab)]):Gl W:=by
 refine⟨⟨Qg hsh,Ss h h4⟩,?_,?_⟩
 ·exact caseVar_of_reads (ρ:=Tryz.lays159_ren) { Tryz.lays159 with } (by kernel_rfl) ⟨by kernel_rfl,by kernel_rfl,by kernel_rfl,by kernel_rfl,by kernel_rfl,by kernel_rfl⟩ (Pinned.caseRanges_eq ▸ Lib.laidMet.reads h h1)
 ·exact utf8Tabs_of_reads (ρ:=Tryz.lays159_ren) { Tryz.lays159 with } ⟨by kernel_rfl,by kernel_rfl,by kernel_rfl,by kernel_rfl,by kernel_rfl,by kernel_rfl,by kernel_rfl⟩ (Pinned.utf8First_eq ▸ Lib.laidMet.reads h h2) (Lib.laidMet.reads h h3)
end Ax
end Go.Proofs.YtjjonmhpgkahoaaGreatDoor
