/-
  A region that draws its order: the operations ahead of number n each yield one value in every world that meets S, and S holds behind each.
  Conditions: the closed check regCk of the region's own edges; none.
-/
import Derived.OrdersHeld
import Derived.Tactics
import Derived.Below
import Derived.Test.YtjjonmhpgkahoaaGreatDoorProg
import Derived.WalkKit
import Derived.WalkSpells
import Derived.WalkLawsBesides
import Derived.Laws.OwnMore
import Derived.Deep.AppendLies
import Derived.Deep.Draws
import Derived.Maps.AppendAt
import Derived.Lib.Hide
set_option linter.unusedSimpArgs false
set_option linter.unusedVariables false
namespace Go.Proofs.YtjjonmhpgkahoaaGreatDoor
theorem qqS {α:Type} (l:List α) (i:Nat) (a:α):l.toArray.setIfInBounds i a=(l.set i a).toArray :=List.setIfInBounds_toArray l i a
theorem qqC {α:Type} {x:α} {xs:List α} {i:Nat} {a:α} : (x::xs).set (i+1) a=x::xs.set i a:=List.set_cons_succ
theorem qqZ {α:Type} {x:α} {xs:List α} {a:α} : (x::xs).set 0 a=a::xs:=List.set_cons_zero
theorem qqT {α:Type} {a:α} {l:List α} {i:Nat} : List.take (i+1) (a::l)=a::List.take i l:=List.take_succ_cons
theorem qqD {α:Type} {a:α} {l:List α} {i:Nat} : List.drop (i+1) (a::l)=List.drop i l:=List.drop_succ_cons
namespace RegP
section
variable {P:Program} {ops:Array Oper} {Q:Exit→Act→World→Prop} {S:World→Prop}
theorem put_get (a:Act) (d:Option Tmp) (v:Value) (t:Nat) :
 (a.put d v).tmps[t]? =if d=some t then a.tmps[t]?.map (fun _=>v) else a.tmps[t]? :=by
 cases d with
 | none=>simp [Act.put]
 | some e=>
   simp only [Act.put,Option.some.injEq]
   by_cases h:e=t
   ·subst h
    by_cases hl:e<a.tmps.size
    ·simp [hl]
    ·simp [hl]
   ·simp [Array.getElem?_setIfInBounds_ne h,h]
theorem put_size (a:Act) (d:Option Tmp) (v:Value):(a.put d v).tmps.size =a.tmps.size:=by cases d<;>simp [Act.put]
theorem put_defers' (a:Act) (d:Option Tmp) (v:Value):(a.put d v).defers =a.defers:=by cases d<;>rfl
def cS (o:Oper):List Nat:=(o.after.toList.filter (Region.binds .any ·)).map (·.on)
def PG (o:Oper):Bool:=match o.op with | .select _ _=>false | _=>true
theorem lZ {o:Oper} {e:Nat} : e∈cS o↔∃x∈o.after,Region.binds .any x=true∧x.on=e:=by
 simp [cS,and_assoc]
theorem tZ {i:Nat} {listed:Array Bool} : i∈Region.ready .any ops listed↔listed.getD i true=false∧∃o,ops[i]? =some o∧∀e∈cS o,listed.getD e false=true:=by
 rw [mem_ready]
 constructor
 ·rintro ⟨h0,o,ho,h⟩
  refine⟨h0,o,ho,fun e he=>?_⟩
  obtain⟨x,hx,hb,rfl⟩:=lZ.1 he
  exact h x hx hb
 ·rintro ⟨h0,o,ho,h⟩
  exact⟨h0,o,ho,fun x hx hb=>h _ (lZ.2 ⟨x,hx,hb,rfl⟩)⟩
def unl (listed:Array Bool) (n:Nat):Nat:=(List.range n).countP fun i=>!listed.getD i false
theorem M5 {listed:Array Bool} {i:Nat} (hi:i<listed.size) (hu:listed.getD i false=false) : ∀n,i<n→unl (listed.setIfInBounds i true) n+1=unl listed n:=by
 intro n
 have same : ∀m,m≤i→unl (listed.setIfInBounds i true) m=unl listed m:=by
  intro m hm
  unfold unl
  refine List.countP_congr fun j hj=>?_
  rw [getD_set_ne false (by have:=List.mem_range.1 hj;omega)]
 induction n with
 | zero=>intro h;omega
 | succ n ih=>
   intro h
   unfold unl at *
   rw [List.range_succ,List.countP_append,List.countP_append]
   by_cases hin:i=n
   ·subst hin
    have:=same i (Nat.le_refl _)
    rw [this]
    simp only [List.countP_singleton]
    have h1:(listed.setIfInBounds i true).getD i false=true:=by simp [hi]
    simp [h1,hu]
   ·have:=ih (by omega)
    simp only [List.countP_singleton]
    rw [getD_set_ne false hin]
    omega
theorem CD {listed:Array Bool} {n:Nat} (h:unl listed n=0) (i:Nat) (hi:i<n):listed.getD i false=true:=by
 unfold unl at h
 rw [List.countP_eq_zero] at h
 have:=h i (List.mem_range.2 hi)
 simpa using this
theorem Ou {listed:Array Bool} {n:Nat} (h:unl listed n≠0) : ∃i,i<n∧listed.getD i false=false∧∀j,j<i→listed.getD j false=true:=by
 induction n with
 | zero=>exact absurd rfl h
 | succ n ih=>
   by_cases h0:unl listed n=0
   ·refine⟨n,Nat.lt_succ_self _,?_,CD h0⟩
    unfold unl at *
    rw [List.range_succ,List.countP_append,h0] at h
    simpa using h
   ·obtain⟨i,hi,h1,h2⟩:=ih h0
    exact⟨i,by omega,h1,h2⟩
end
end RegP
end Go.Proofs.YtjjonmhpgkahoaaGreatDoor
namespace Go.Proofs.YtjjonmhpgkahoaaGreatDoor
open Go.RowKit RegP
abbrev Str:=List UInt8
abbrev sv (l:Str):Value:=.string ⟨l.toArray⟩
abbrev bv (c:UInt8):Value:=.int .u8 (c.toNat:Int)
@[go_sem] theorem QL (l:List UInt8) (k:Nat) (h:k<(ByteArray.mk l.toArray).size):(ByteArray.mk l.toArray)[k]'h=l[k]'(by simpa [ByteArray.size] using h):=rfl
@[go_sem] theorem Fz (l:List UInt8) (a b:Nat):(ByteArray.mk l.toArray).extract a b=ByteArray.mk ((l.drop a).take (b-a)).toArray :=ByteArray.extract_mk l a b
@[go_sem] theorem IE (x y:List UInt8):(ByteArray.mk x.toArray++ByteArray.mk y.toArray)=ByteArray.mk (x++y).toArray :=ByteArray.mk_append_mk x y
theorem Pk (a:UInt8):0≤(a.toNat:Int)∧(a.toNat:Int)<256:=⟨by omega,by have:=a.toNat_lt;omega⟩
def Blk (w:World) (g:Nat) (t:TypeId) (cs:Array Value):Prop:=w.heap[g]? =some (.cells cs t (0,0))
section
variable {w w':World} {g:Nat} {t:TypeId} {cs:Array Value}
theorem Blk.lt (h:Blk w g t cs):g<w.heap.size:=by
 rcases Nat.lt_or_ge g w.heap.size with hlt | hge
 ·exact hlt
 ·unfold Blk at h;rw [Array.getElem?_eq_none hge] at h;cases h
theorem Blk.cell (h:Blk w g t cs) (i:Nat):w.cell? ⟨g,i,none⟩=cs[i]? :=cell_of_row w g i cs t (0,0) h
theorem Blk.frozen (h:Blk w g t cs) (i:Nat):w.frozen? ⟨g,i,none⟩=false:=by
 unfold Blk at h
 simp [World.frozen?,h]
theorem Blk.new (w:World) (t:TypeId) (cs:Array Value):Blk (w.alloc (.cells cs t)) w.heap.size t cs:=heap_alloc_new w _
theorem Blk.drew (h:Blk w g t cs):Blk w.drew g t cs:=h
theorem Blk.alloc (h:Blk w g t cs) (o:Obj):Blk (w.alloc o) g t cs:=(Below.heap_alloc w o g h.lt).trans h
theorem Blk.set_ (h:Blk w g t cs) (i:Nat) (u:Value):Blk (w.setCell ⟨g,i,none⟩ u) g t (cs.setIfInBounds i u):=by
 unfold Blk at h ⊢
 simp [World.setCell,Array.getElem?_modify,h]
theorem Blk.grown {row:Option Nat} (h:Blk w g t cs) (hb:w.grownBy w' row) (hg:some g≠row):Blk w' g t cs:=(hb.block g h.lt hg).trans h
theorem Blk.ne_ {g':Nat} {t':TypeId} {cs':Array Value} (h:Blk w g t cs) (h':Blk w g' t' cs') (hne:t≠t'):g≠g':=by
 rintro rfl
 unfold Blk at h h'
 rw [h] at h'
 injection h' with h'
 injection h' with _ ht
 exact hne ht
theorem re {base:Nat} {e:TypeId} {size n:Nat} {v:Value} {xs:List Value} (h:w.ownsRow base e size v n xs) (hg:Blk w g t cs) (hne:e≠t):v.ownBlock≠some g:=by
 rcases h.2 with ⟨rfl,_⟩ | ⟨g',cap,cur,rfl,_,hh,_⟩
 ·simp [Value.ownBlock]
 ·intro he
  have : g'=g:=by simpa [Value.ownBlock] using he
  subst this
  exact Blk.ne_ (t:=e) hh hg hne rfl
end
theorem AB (a:Addr) (n:Nat):(a.add n).block =a.block:=by unfold Addr.add;split<;>rfl
def Reads (w:World) (B size:Nat) (A:Option Addr) (n:Nat) (xs:List Value):Prop:=
 xs.length=n*size∧(0<n→∃ad,A=some ad∧ad.block<B∧∀j u,xs[j]? =some u→w.cell? (ad.add j)=some u)
section
variable {w w':World} {B B' size n:Nat} {A:Option Addr} {xs:List Value}
theorem Reads.keep (h:Reads w B size A n xs) (hk : ∀p:Addr,p.block<B→w'.cell? p=w.cell? p):Reads w' B size A n xs:=
 ⟨h.1,fun hn=>by
   obtain⟨ad,e,hb,hc⟩:=h.2 hn
   exact⟨ad,e,hb,fun j u hu=>(hk _ (by rw [AB];exact hb)).trans (hc j u hu)⟩⟩
theorem Reads.alloc (h:Reads w B size A n xs) (hB:B≤w.heap.size) (o:Obj):Reads (w.alloc o) B size A n xs:=h.keep fun p hp=>World.cell?_alloc_lt w o p (by omega)
theorem Reads.of_own {base:Nat} {e:TypeId} {c:Nat} (h:w.ownsRow base e size (.slice A n c) n xs):Reads w w.heap.size size A n xs:=by
 refine⟨h.1,fun hn=>?_⟩
 obtain⟨g,cap,hv,_,hlt⟩:=h.form hn
 have hA:A=some ⟨g,0,none⟩:=by injection hv
 subst hA
 exact⟨_,rfl,hlt,h.cells (g:=g) rfl⟩
end
structure SlT (P:Program) (T E:TypeId) (z:Value) (size bytes:Nat):Prop where
 ht:P.underlying T=some (.slice E)
 hi:(P.info? E).map (fun i=>(i.zero,i.size,i.bytes))=some (some z,size,bytes)
 hz:z.cells.size=size
 pos:0<size
section
variable {P:Program} {w w0 w1 w':World} {base e size n:Nat} {v z:Value} {xs:List Value} {T bytes:Nat}
theorem Ej {ops:Array Oper} {rest:List Oper} {o:Oper} {a:Act} {Q:Exit→Act→World→Prop} (hT:SlT P T e z size bytes) (hgd:o.guard=none) (s x:Operand)
 (ho:o.op=.call { callee:=.builtin .append,args:=#[s,x],argTypes:=#[T,T] })
 (v:Value) (n:Nat) (xs:List Value) (hs:a.eval s=v) (base:Nat) (hown:w0.ownsRow base e size v n xs) (us:List Value) (hu:us.length=size) (h1 : ∀u∈us,u.oneCell'=true)
 (hx:a.eval x=.slice (some ⟨w0.heap.size,0,none⟩) 1 1) (hn:n+1≤1099511627776) (hby:bytes≤128) (hbase:base≤w0.heap.size)
 (h : ∀v' w',w'.ownsRow base e size v' (n+1) (xs++us)→w0.grownBy w' v.ownBlock→(v'.ownBlock=v.ownBlock∨v'.ownBlock=some (w0.heap.size+1))→wpList P ops Q rest (a.put o.dst v') w') :
 wpList P ops Q (o::rest) a (w0.alloc (.cells us.toArray e)):=by
 cases hq:P.info? e with
 | none=>have:=hT.hi;rw [hq] at this;cases this
 | some i=>
   have hii:=hT.hi
   rw [hq] at hii
   simp only [Option.map_some,Option.some.injEq,Prod.mk.injEq] at hii
   obtain⟨hz,hsz,hbt⟩:=hii
   refine wpList_append_own_at (w0.alloc (.cells us.toArray e)) hgd s x T ho base e i z size bytes hT.ht hq hz hsz hbt hT.hz hT.pos v n xs hs (hown.alloc _) ⟨w0.heap.size,0,none⟩ 1 1 us hx (by omega) ?_ h1 ?_ ?_ ?_ ?_
   ·intro j u hj
    have hadd:(⟨w0.heap.size,0,none⟩:Addr).add j=⟨w0.heap.size,j,none⟩:=by unfold Addr.add;split<;>simp_all
    rw [hadd,cell_of_row _ _ j us.toArray e (0,0) (heap_alloc_new w0 _)]
    simpa using hj
   ·unfold maxLen;omega
   ·have : (n+1)*bytes≤1099511627776*128:=Nat.mul_le_mul hn hby
    omega
   ·simp;omega
   ·intro v' w' k1 k2 _ k3
    refine h v' w' k1 ⟨k2.os,k2.tape,k2.output,?_,?_⟩ ?_
    ·have:=k2.size;simp at this;omega
    ·intro k hk hne
     rw [k2.block k (by simp;omega) hne,Below.heap_alloc w0 _ k hk]
    ·rcases k3 with k3 | k3
     ·exact .inl k3
     ·exact .inr (by simpa using k3)
theorem vh {ops:Array Oper} {rest:List Oper} {o:Oper} {a:Act} {Q:Exit→Act→World→Prop} (hT:SlT P T e z size bytes) (hgd:o.guard=none) (s x:Operand)
 (ho:o.op=.call { callee:=.builtin .append,args:=#[s,x],argTypes:=#[T,T] })
 (v:Value) (n:Nat) (xs:List Value) (hs:a.eval s=v) (base:Nat) (hown:w.ownsRow base e size v n xs) (B:Nat) (A:Option Addr) (m c:Nat) (us:List Value) (hx:a.eval x=.slice A m c) (hr:Reads w B size A m us)
 (h1 : ∀u∈us,u.oneCell'=true) (hn:n+m≤1099511627776) (hby:bytes≤128) (hbase:base≤w.heap.size)
 (h : ∀v' w',w'.ownsRow base e size v' (n+m) (xs++us)→w.grownBy w' v.ownBlock→(v'.ownBlock=v.ownBlock∨v'.ownBlock=some w.heap.size)→wpList P ops Q rest (a.put o.dst v') w') :
 wpList P ops Q (o::rest) a w:=by
 cases hq:P.info? e with
 | none=>have:=hT.hi;rw [hq] at this;cases this
 | some i=>
   have hii:=hT.hi
   rw [hq] at hii
   simp only [Option.map_some,Option.some.injEq,Prod.mk.injEq] at hii
   obtain⟨hz,hsz,hbt⟩:=hii
   have hmul:(n+m)*bytes≤140737488355328:=by
    have : (n+m)*bytes≤1099511627776*128:=Nat.mul_le_mul hn hby
    omega
   have hml:n+m≤maxLen:=by unfold maxLen;omega
   rcases A with _ | ad
   ·have hm:m=0:=by
     rcases Nat.eq_zero_or_pos m with h0 | h0
     ·exact h0
     ·obtain⟨ad,h,_⟩:=hr.2 h0
      cases h
    subst hm
    have hn':us=[]:=List.eq_nil_of_length_eq_zero (by simpa using hr.1)
    subst hn'
    have hrun:(Builtin.append_ #[T,T] o.type #[v,.slice none 0 c]).run P w=.ok v w:=by
     rcases hown.2 with ⟨rfl,rfl⟩ | ⟨g,cap,cur,rfl,_,_,hnc,_⟩
     ·simp [Builtin.append_,run_underlying hT.ht,sizeOf,typeInfo,hq,Builtin.lenOf,Builtin.firstCells]
     ·simp [Builtin.append_,run_underlying hT.ht,sizeOf,typeInfo,hq,Builtin.lenOf,Builtin.firstCells,hnc,storeCells]
    refine wpList_plain hgd fun K hK=>?_
    unfold Oper.wp execOp
    simp only [ho,resolve,invoke,builtin,Sem.run_bind,Sem.run_pure,Result.andThen_ok,List.map_toArray,List.map_cons,List.map_nil,hs,hx,hrun]
    exact hK _ _ (h v w (by simpa using hown) (World.grownBy.refl w _) (.inl rfl))
   ·have hcells : ∀j u,us[j]? =some u→w.cell? (ad.add j)=some u:=by
     intro j u hu
     rcases Nat.eq_zero_or_pos m with h0 | h0
     ·subst h0
      have hn':us=[]:=List.eq_nil_of_length_eq_zero (by simpa using hr.1)
      subst hn'
      simp at hu
     ·obtain⟨ad',h,_,hc⟩:=hr.2 h0
      injection h with h
      subst h
      exact hc j u hu
    exact wpList_append_own_at w hgd s x T ho base e i z size bytes hT.ht hq hz hsz hbt hT.hz hT.pos v n xs hs hown ad m c us hx hr.1 hcells h1 hml hmul hbase (fun v' w' k1 k2 _ k3=>h v' w' k1 k2 k3)
theorem Below.own {B:Nat} {a:World} (hb:Below B a w) (hle:B≤w.heap.size) (hown:w.ownsRow base e size v n xs) (hB:B≤base) (hg:w.grownBy w' v.ownBlock):Below B a w':=
 hb.grown hg hle (fun k hk=>Nat.le_trans hB (hown.lt k hk).1)
end
theorem wY {w:World} {base e size n n':Nat} {v:Value} {xs xs':List Value} (h:w.ownsRow base e size v n xs) (hx:xs=xs') (hn:n=n'):w.ownsRow base e size v n' xs':=by rw [←hn,←hx];exact h
theorem KN {w:World} {base e size n:Nat} {v:Value} {xs:List Value} (h:w.ownsRow base e size v n xs) : ∃A c,v=.slice A n c∧n≤c∧Reads w w.heap.size size A n xs:=by
 rcases h.2 with ⟨rfl,rfl⟩ | ⟨g,cap,cur,rfl,_,_,hc,_⟩
 ·exact⟨none,0,rfl,Nat.le_refl _,Reads.of_own h⟩
 ·exact⟨_,cap,rfl,hc,Reads.of_own h⟩
section
variable {w w':World} {base g:Nat} {e:TypeId} {xs:List Value}
end
end Go.Proofs.YtjjonmhpgkahoaaGreatDoor
