/-
  A plain walker: the operations of a program over plain values (lists, numbers), as a condition that is reckoned.
  Conditions: none.
-/
import Derived.OrdersHeld
import Derived.Tactics
import Derived.Below
set_option linter.unusedSimpArgs false
set_option linter.unusedVariables false
namespace Go.Proofs.YtjjonmhpgkahoaaGreatDoor
namespace Ax
inductive aw where
 | i (k:IntKind) | b | s | r (sh:List aw)
mutual
@[reducible] def aw.Ty:aw→Type
 | .i _=>Int
 | .b =>Bool
 | .s =>List UInt8
 | .r sh=>List (El sh)
@[reducible] def El:List aw→Type
 | []=>Unit
 | t::ts=>EL2 t.Ty ts
@[reducible] def EL2 (x:Type):List aw→Type
 | []=>x
 | t::ts=>x×EL2 t.Ty ts
end
def aw.dflt:(t:aw)→t.Ty
 | .i _=>(0:Int)
 | .b =>false
 | .s =>([]:List UInt8)
 | .r _=>([]:List _)
def dE2 {x:Type} (d:x):(ts:List aw)→EL2 x ts
 | []=>d
 | t::ts=>(d,dE2 t.dflt ts)
def dE:(sh:List aw)→El sh
 | []=>()
 | t::ts=>dE2 t.dflt ts
inductive PV where
 | bt | bf | b (x:Bool) | nb (x:Bool) | i (k:IntKind) (n:Int) | s (l:List UInt8)
 | ptr (id off:Nat) | nilp
 | rptr (cs:List PV) (off:Nat)
 | rsl (sh:List aw) (L:List (El sh)) | esl
 | osl (id:Nat)
 | eptr (id:Nat) (ix:Int) (st off:Nat)
 | osub (id:Nat) (lo:Int)
 | agg (l:List PV) | tup (l:List PV)
 | arr (k:aw) (n:Nat) (L:List k.Ty)
 | fn (f:FuncId) (cap:List PV)
 | nx (l:List UInt8) (k:Int)
 | raw (v:Value) | dead
def aw.pv:(t:aw)→t.Ty→PV
 | .i k,x=>.i k x
 | .b,x=>.b x
 | .s,x=>.s x
 | .r sh,x=>.rsl sh x
def mk2 {x:Type} (f:x→PV):(ts:List aw)→EL2 x ts→List PV
 | [],e=>[f e]
 | t::ts,e=>f e.1::mk2 t.pv ts e.2
def mk:(sh:List aw)→El sh→List PV
 | [],_=>[]
 | t::ts,e=>mk2 t.pv ts e
inductive Ob where
 | cells (l:List PV) (ty:TypeId)
 | own (sh:List aw) (L:List (El sh)) (ty:TypeId)
 | arr (k:aw) (n:Option Nat) (L:List k.Ty) (ty:TypeId)
 | it (l:List UInt8) (k:Int)
 | gone
def Ob.gn:Ob→Bool
 | .gone =>true
 | _=>false
abbrev AH:=List (Nat×Ob)
def AH.get (h:AH) (id:Nat):Option Ob:=match h with
 | []=>none
 | (k,o)::r=>if k==id then some o else AH.get r id
structure Out where
 pre:List Prop
 v:PV
 eff:AH
inductive TD where
 | int (k:IntKind) | bool | str | ptr (e:TypeId) | sl (e:TypeId) | st (fs:List (Nat×TypeId)) | arr (n:Nat) (e:TypeId) | oth
structure TI where
 d:TD
 n:Nat
 z:List PV
 sh:List aw
def TI.agg (t:TI):Bool:=match t.d with | .st _=>true | .arr _ _=>true | _=>false
abbrev aa:=List PV→Option Out
abbrev bX:=AH→List PV→Option Out
structure H8 where
 α:Type
 pre:List Prop
 Q:α→Prop
 v:α→PV
 eff:α→AH
abbrev d7:=AH→List PV→Option H8
structure Nd (α:Type) where
 x:α
structure Pr where
 add:Int→Int→Int
 sub:Int→Int→Int
 mul:Int→Int→Int
 quo:Int→Int→Int
 rem:Int→Int→Int
 eqI:Int→Int→Bool
 ltI:Int→Int→Bool
 leI:Int→Int→Bool
 eqB:Bool→Bool→Bool
 eqS:List UInt8→List UInt8→Bool
 ltS:List UInt8→List UInt8→Bool
 app:List UInt8→List UInt8→List UInt8
 drp:List UInt8→Int→List UInt8
 tak:List UInt8→Int→List UInt8
 lenS:List UInt8→Int
 byte:List UInt8→Int→Int
 len : {α:Type}→List α→Int
 get : {α:Type}→α→List α→Int→α
 set : {α:Type}→List α→Int→α→List α
 snoc : {α:Type}→List α→List α→List α
 ltM:Int→Prop
 inK:IntKind→Int→Prop
 inL:Int→Int→Prop
 leP:Int→Int→Prop
 neP:Int→Int→Prop
 and:Bool→Bool→Bool
 toS:List Int→List UInt8
 toB:List UInt8→List Int
 rep : {α:Type}→Int→α→List α
 min:Int→Int→Int
 asc:List UInt8→Prop
 cpy:List Int→Int→List Int→List Int
 max:Int→Int→Int
 tkL : {α:Type}→List α→Int→List α
 drL : {α:Type}→List α→Int→List α
def fZ (l:List Int):List UInt8:=l.map fun n=>UInt8.ofNat n.toNat
def aq (l:List UInt8):List Int:=l.map fun c=>(c.toNat:Int)
def std:Pr where
 add a b:=a+b
 sub a b:=a-b
 mul a b:=a*b
 quo a b:=a.tdiv b
 rem a b:=a.tmod b
 eqI a b:=a==b
 ltI a b:=decide (a<b)
 leI a b:=decide (a≤b)
 eqB a b:=a==b
 eqS a b:=a==b
 ltS a b:=Op.bytesLess a b
 app a b:=a++b
 drp a n:=a.drop n.toNat
 tak a n:=a.take n.toNat
 lenS a:=a.length
 byte a n:=(a.getD n.toNat 0).toNat
 len l:=l.length
 get d l n:=l.getD n.toNat d
 set l n x:=l.set n.toNat x
 snoc l m:=l++m
 ltM n:=n≤274877906944
 inK k n:=k.min≤n∧n≤k.max
 inL n m:=0≤n∧n<m
 leP a b:=a≤b
 neP a b:=a≠b
 and a b:=a&&b
 toS l:=fZ l
 toB l:=aq l
 rep n x:=List.replicate n.toNat x
 min a b:=if a≤b then a else b
 asc l:=∀c∈l,c.toNat<128
 cpy L n M:=L.take n.toNat++M++L.drop (n.toNat+M.length)
 max a b:=if a≤b then b else a
 tkL l n:=l.take n.toNat
 drL l n:=l.drop n.toNat
structure Uf where
 add:Int→Int→Int
 mul:Int→Int→Int
 shr:Int→Int→Int
 msk:Int→Int→Int
def dU:Uf where
 add a b:=IntKind.wrap .u64 (a+b)
 mul a b:=IntKind.wrap .u64 (a*b)
 shr a b:=a.fdiv (2 ^ (min b.toNat 64))
 msk a b:=((BitVec.ofInt 64 a&&& BitVec.ofInt 64 b).toNat : Nat)
structure Cx where
 p:Pr
 T:TypeId→Option TI
 F:FuncId→Option aa
 M:FuncId→Option bX
 n0:Nat
 C:TypeId→Bool
 I:TypeId→Nat→Option (FuncId×String)
 N:FuncId→Option d7
 U:Option Uf
 Z:FuncId→Bool
 K:Nat→List Nat
def Jf:Value→PV
 | .bool x=>if x then .bt else .bf
 | .int k n=>.i k n
 | .string s=>.s s.data.toList
 | .pointer none=>.nilp
 | .slice none 0 0=>.esl
 | .func (.func f) ⟨[]⟩ ⟨[]⟩=>.fn f []
 | v=>.raw v
def ev (tm:List PV):Operand→PV
 | .tmp t=>tm.getD t .dead
 | .const v=>Jf v
 | .func f=>.fn f []
 | .global _=>.dead
def ok (v:PV):Option Out:=some ⟨[],v,[]⟩
def okp (p:List Prop) (v:PV):Option Out:=some ⟨p,v,[]⟩
def NC:PV→Option PV
 | .bt =>some .bf
 | .bf =>some .bt
 | .b x=>some (.nb x)
 | .nb x=>some (.b x)
 | _=>none
def N4 (p:Pr):PV→PV→Option PV
 | .b a,.b b=>some (.b (p.eqB a b))
 | .bt,.b a=>some (.b a)
 | .b a,.bt =>some (.b a)
 | .bf,.b a=>some (.nb a)
 | .b a,.bf =>some (.nb a)
 | .bt,.nb a=>some (.nb a)
 | .nb a,.bt =>some (.nb a)
 | .bf,.nb a=>some (.b a)
 | .nb a,.bf =>some (.b a)
 | .nb a,.b b=>some (.nb (p.eqB a b))
 | .b a,.nb b=>some (.nb (p.eqB a b))
 | .nb a,.nb b=>some (.b (p.eqB a b))
 | _,_=>none
def Nk (p:Pr) (op:BinOp) (k:IntKind) (a b:Int):Option Out:=
 match op with
 | .add =>okp [p.inK k (p.add a b)] (.i k (p.add a b))
 | .sub =>okp [p.inK k (p.sub a b)] (.i k (p.sub a b))
 | .mul =>okp [p.inK k (p.mul a b)] (.i k (p.mul a b))
 | .quo =>okp [p.neP b 0,p.inK k (p.quo a b)] (.i k (p.quo a b))
 | .rem =>okp [p.neP b 0] (.i k (p.rem a b))
 | .eql =>ok (.b (p.eqI a b))
 | .neq =>ok (.nb (p.eqI a b))
 | .lss =>ok (.b (p.ltI a b))
 | .leq =>ok (.b (p.leI a b))
 | .gtr =>ok (.b (p.ltI b a))
 | .geq =>ok (.b (p.leI b a))
 | _=>none
def L5 (p:Pr) (op:BinOp) (a b:List UInt8):Option Out:=
 match op with
 | .add =>okp [p.inK .i64 (p.add (p.lenS a) (p.lenS b))] (.s (p.app a b))
 | .eql =>ok (.b (p.eqS a b))
 | .neq =>ok (.nb (p.eqS a b))
 | .lss =>ok (.b (p.ltS a b))
 | .leq =>ok (.nb (p.ltS b a))
 | .gtr =>ok (.b (p.ltS b a))
 | .geq =>ok (.nb (p.ltS a b))
 | _=>none
def bin (p:Pr) (op:BinOp) (x y:PV):Option Out:=
 match x,y with
 | .i k a,.i k' b=>if k=k' then Nk p op k a b else none
 | .s a,.s b=>L5 p op a b
 | _,_=>none
def Kg (p:Pr) (op:BinOp) (x y:PV):Option Out:=
 match op with
 | .eql =>(N4 p x y).bind ok
 | .neq =>(N4 p x y).bind fun v=>(NC v).bind ok
 | _=>none
def ldC (t:TI) (cs:List PV) (off:Nat):Option PV:=
 let r:=(cs.drop off).take t.n
 if r.length==t.n then
  if t.agg then some (.agg r) else match r with
   | [v]=>some v
   | _=>none
 else none
def PV.one:PV→Bool
 | .agg _ | .tup _ | .raw _ | .dead | .eptr _ _ _ _ | .osub _ _ | .arr _ _ _ | .nx _ _=>false
 | _=>true
def aw.flat:aw→Bool
 | .r _=>false
 | _=>true
def cellsOf:PV→Option (List PV)
 | .agg l=>some l
 | v=>if v.one then some [v] else none
def stC:List PV→Nat→List PV→List PV
 | l,_,[]=>l
 | [],_,_=>[]
 | _::l,0,v::r=>v::stC l 0 r
 | x::l,n+1,vs=>x::stC l n vs
mutual
def deep (h:AH):Nat→PV→PV
 | n+1,.ptr id off=>match h.get id with | some (.cells l _)=>.rptr (eK h n l) off | _=>.dead
 | _+1,.osl id=>match h.get id with | some (.own sh L _)=>.rsl sh L | some (.arr k none L _)=>.rsl [k] L | _=>.dead
 | _+1,.eptr _ _ _ _=>.dead
 | _+1,.osub _ _=>.dead
 | n+1,.agg l=>.agg (eK h n l)
 | n+1,.tup l=>.tup (eK h n l)
 | n+1,.fn f l=>.fn f (eK h n l)
 | _,v=>v
def eK (h:AH):Nat→List PV→List PV
 | _,[]=>[]
 | 0,l=>l
 | n+1,v::r=>deep h n v::eK h (n+1) r
end
mutual
def PV.has:PV→Bool
 | .ptr _ _ | .osl _ | .eptr _ _ _ _ | .osub _ _ | .fn _ (_::_)=>true
 | .agg l | .tup l=>JN l
 | _=>false
def JN:List PV→Bool
 | []=>false
 | v::r=>v.has||JN r
end
mutual
def PV.ro:PV→Bool
 | .rptr _ _ | .rsl _ _=>true
 | .agg l | .tup l | .fn _ l=>roL l
 | _=>false
def roL:List PV→Bool
 | []=>false
 | v::r=>v.ro||roL r
end
def trim (c:Cx) (t:TypeId) (v:PV):PV:=match v with
 | .rptr cs off=>match c.T t with
   | some ⟨.ptr e,_,_,_⟩=>match c.T e with
     | some te=>.rptr ((cs.drop off).take te.n) 0
     | none=>v
   | _=>v
 | .esl =>match c.T t with
   | some ⟨.sl _,_,_,sh⟩=>.rsl sh []
   | _=>v
 | v=>v
def pj (c:Cx):List TypeId→List PV→List PV
 | t::ts,v::vs=>trim c t v::pj c ts vs
 | _,vs=>vs
mutual
def PV.rn (ρ:Nat→Nat):PV→PV
 | .ptr id off=>.ptr (ρ id) off
 | .osl id=>.osl (ρ id)
 | .eptr id ix st off=>.eptr (ρ id) ix st off
 | .osub id lo=>.osub (ρ id) lo
 | .rptr l off=>.rptr (rnL ρ l) off
 | .agg l=>.agg (rnL ρ l)
 | .tup l=>.tup (rnL ρ l)
 | .fn f l=>.fn f (rnL ρ l)
 | v=>v
def rnL (ρ:Nat→Nat):List PV→List PV
 | []=>[]
 | v::r=>v.rn ρ::rnL ρ r
end
def Ob.rn (ρ:Nat→Nat):Ob→Ob
 | .cells l ty=>.cells (rnL ρ l) ty
 | .own sh L ty=>.own sh L ty
 | .arr k n L ty=>.arr k n L ty
 | .it l k=>.it l k
 | .gone =>.gone
mutual
def PV.idIn (K:List Nat):PV→Bool
 | .ptr id _=>K.contains id
 | .osl id=>K.contains id
 | .eptr id _ _ _=>K.contains id
 | .osub id _=>K.contains id
 | .rptr l _=>cP K l
 | .agg l=>cP K l
 | .tup l=>cP K l
 | .fn _ l=>cP K l
 | _=>true
def cP (K:List Nat):List PV→Bool
 | []=>true
 | v::r=>v.idIn K&&cP K r
end
def Ob.idIn (K:List Nat):Ob→Bool
 | .cells l _=>cP K l
 | .own _ _ _=>true
 | .arr _ _ _ _=>true
 | .it _ _=>true
 | .gone =>true
def look (ρ:List Nat) (k:Nat):Nat:=ρ.getD k 0
def nodupB:List Nat→Bool
 | []=>true
 | x::r=>!r.contains x&&nodupB r
def mv (ρ:List Nat) (nx k:Nat):Nat:=if Nat.blt k ρ.length then look ρ k else nx+(k-ρ.length)
def rnH (τ:Nat→Nat):AH→AH
 | []=>[]
 | (k,o)::r=>(τ k,o.rn τ)::rnH τ r
mutual
def PV.ids:PV→List Nat
 | .ptr id _=>[id]
 | .osl id=>[id]
 | .eptr id _ _ _=>[id]
 | .osub id _=>[id]
 | .rptr l _=>oa l
 | .agg l=>oa l
 | .tup l=>oa l
 | .fn _ l=>oa l
 | _=>[]
def oa:List PV→List Nat
 | []=>[]
 | v::r=>v.ids++oa r
end
def eqK (a b:IntKind):Option (PLift (a=b)):=if h:a=b then some ⟨h⟩ else none
mutual
def eqA:(x y:aw)→Option (PLift (x=y))
 | .i k,.i k'=>match eqK k k' with | some ⟨h⟩=>some ⟨by rw [h]⟩ | none=>none
 | .b,.b =>some ⟨rfl⟩
 | .s,.s =>some ⟨rfl⟩
 | .r x,.r y=>match QP x y with | some ⟨h⟩=>some ⟨by rw [h]⟩ | none=>none
 | _,_=>none
def QP:(x y:List aw)→Option (PLift (x=y))
 | [],[]=>some ⟨rfl⟩
 | a::x,c::y=>match eqA a c,QP x y with | some ⟨h⟩,some ⟨k⟩=>some ⟨by rw [h,k]⟩ | _,_=>none
 | _,_=>none
end
def kE (x y:List aw) (L:List (El x)):Option (List (El y)):=match QP x y with
 | some ⟨h⟩=>some (cast (congrArg (fun z=>List (El z)) h) L)
 | none=>none
structure Row where
 sh:List aw
 L:List (El sh)
def rowOf (h:AH):PV→Option Row
 | .rsl sh L=>some ⟨sh,L⟩
 | .osl id=>match h.get id with
   | some (.own sh L _)=>some ⟨sh,L⟩
   | some (.arr k none L _)=>some ⟨[k],L⟩
   | _=>none
 | _=>none
def sm (ti:TI) (sh:List aw):Bool:=Nat.beq ti.n sh.length&&(Nat.blt 0 ti.n&&(Nat.ble ti.n 40&&Nat.beq ti.z.length ti.n))
mutual
def PV.nrm:PV→PV
 | .bt =>.b true
 | .bf =>.b false
 | .nb x=>.b (!x)
 | .rptr l o=>.rptr (nd l) o
 | .agg l=>.agg (nd l)
 | .tup l=>.tup (nd l)
 | v=>v
def nd:List PV→List PV
 | []=>[]
 | v::r=>v.nrm::nd r
end
def Ob.nrm:Ob→Ob
 | .cells l ty=>.cells (nd l) ty
 | .own sh L ty=>.own sh L ty
 | .arr k n L ty=>.arr k n L ty
 | .it l k=>.it l k
 | .gone =>.gone
def reach (h:AH):Nat→List Nat→List Nat→List Nat
 | n+1,k::r,acc=>if acc.contains k then reach h n r acc else reach h n (r++(match h.get k with | some (.cells l _)=>oa l | _=>[])) (acc++[k])
 | _,_,acc=>acc
def idx:List Nat→Nat→Nat
 | [],_=>0
 | x::r,k=>if Nat.beq x k then 0 else idx r k+1
def yX (h:AH) (ρ:List Nat):Nat→List Nat→AH
 | _,[]=>[]
 | n,k::r=>match h.get k with
   | some o=>(n,(o.rn (idx ρ)).nrm)::yX h ρ (n+1) r
   | none=>yX h ρ (n+1) r
def closed (h:AH) (ρ:List Nat) (nx:Nat) (vs:List PV):Bool:=
 nodupB ρ&&(ρ.all (fun k=>Nat.blt k nx&&(match h.get k with | some o=>o.idIn ρ&&!o.gn | none=>false))&&cP ρ vs)
def gU:List aw→Bool
 | []=>true
 | .r _::_=>false
 | _::r=>gU r
def roH:AH→Bool
 | []=>false
 | (_,.cells l _)::r=>roL l||roH r
 | (_,.own sh _ _)::r=>!gU sh||roH r
 | (_,.arr _ _ _ _)::r=>roH r
 | (_,.it _ _)::r=>roH r
 | (_,.gone)::r=>roH r
def Ds (c:Cx) (fs:List (Nat×TypeId)):List PV→List (Nat×PV)→Option (List PV)
 | z,[]=>some z
 | z,(k,v)::r=>match fs[k]? with
   | some (off,tf)=>match c.T tf,cellsOf v with
     | some ti,some vs=>if ti.n==vs.length&&Nat.ble (off+vs.length) z.length then Ds c fs (stC z off vs) r else none
     | _,_=>none
   | none=>none
def un1:(t:aw)→PV→Option t.Ty
 | .i k,.i k' n=>if k=k' then some n else none
 | .b,.bt =>some true
 | .b,.bf =>some false
 | .b,.b x=>some x
 | .s,.s l=>some l
 | .r sh,.rsl sh' L=>kE sh' sh L
 | .r _,.esl =>some []
 | _,_=>none
def hdP:List PV→PV
 | v::_=>v
 | []=>.dead
def tlP:List PV→List PV
 | _::r=>r
 | []=>[]
def both {α β:Type} : Option α→Option β→Option (α×β)
 | some a,some b=>some (a,b)
 | _,_=>none
def un2 {x:Type} (f:PV→Option x):(ts:List aw)→List PV→Option (EL2 x ts)
 | [],vs=>if Nat.beq vs.length 1 then f (hdP vs) else none
 | t::ts,vs=>both (f (hdP vs)) (un2 (un1 t) ts (tlP vs))
def unE:(sh:List aw)→List PV→Option (El sh)
 | t::ts,vs=>un2 (un1 t) ts vs
 | [],_=>none
def lits (sh:List aw):Nat→List (Nat×PV)→Option (List (El sh))
 | _,[]=>some []
 | k,(i,v)::r=>if Nat.beq i k then match cellsOf v with
   | some vs=>match unE sh vs,lits sh (k+1) r with
     | some y,some L=>some (y::L)
     | _,_=>none
   | none=>none
   else none
def JY (c:Cx) (k:Call) (ρ:Operand→PV) (h:AH) (nx:Nat):Option Out:=
 match k with
 | ⟨.builtin .len,⟨[x]⟩,⟨[t]⟩⟩=>match c.T t,ρ x with
   | some ⟨.str,_,_,_⟩,.s l=>ok (.i .i64 (c.p.lenS l))
   | some ⟨.sl _,_,_,_⟩,.rsl _ L=>ok (.i .i64 (c.p.len L))
   | some ⟨.sl _,_,_,_⟩,.esl =>ok (.i .i64 0)
   | some ⟨.sl _,_,_,_⟩,.osl id=>match h.get id with
     | some (.own _ L _)=>ok (.i .i64 (c.p.len L))
     | _=>none
   | _,_=>none
 | ⟨.builtin .append,⟨[x,y]⟩,⟨[t,t']⟩⟩=>if Nat.beq t t' then match c.T t with
   | some ⟨.sl te,_,_,_⟩=>match c.T te,ρ x,rowOf h (ρ y) with
     | some ti,.esl,some ⟨sh,M⟩=>if sm ti sh then some ⟨[c.p.ltM (c.p.len M)],.osl nx,[(nx,.own sh M te)]⟩ else none
     | some ti,.osl id,some ⟨sh',M'⟩=>match h.get id with
       | some (.own sh L ty)=>match kE sh' sh M' with
         | some M=>if sm ti sh&&Nat.beq ty te then some ⟨[c.p.ltM (c.p.add (c.p.len L) (c.p.len M))],.osl nx,[(nx,.own sh (c.p.snoc L M) te),(id,.gone)]⟩ else none
         | none=>none
       | _=>none
     | _,_,_=>none
   | _=>none
   else none
 | ⟨.value f,args,ts⟩=>match ρ f with
   | .fn g cap=>match c.M g with
     | some S=>
       let vs:=pj c ts.toList (args.toList.map ρ++cap)
       let r:=reach h 60 (oa vs) []
       if closed h r nx vs then match S (yX h r 0 r) (nd (rnL (idx r) vs)) with
        | some out=>some ⟨out.pre,out.v.rn (mv r nx),rnH (mv r nx) out.eff⟩
        | none=>none
       else none
     | none=>match c.F g with
       | some S=>
         let vs:=args.toList.map ρ++cap
         if JN vs then match S (nd (pj c ts.toList (eK h 12 vs))) with
          | some out=>if out.v.ro||roH out.eff then none else if c.Z g then match out.v,out.eff with
             | .osl 0,[(0,.own sh L _)]=>if gU sh then some ⟨out.pre,.rsl sh L,[]⟩ else none
             | _,_=>none
            else some ⟨out.pre,out.v.rn (mv [] nx),rnH (mv [] nx) out.eff⟩
          | none=>none
         else match S (nd (pj c ts.toList vs)) with
          | some out=>some ⟨out.pre,out.v.rn (mv [] nx),rnH (mv [] nx) out.eff⟩
          | none=>none
       | none=>none
   | _=>none
 | _=>none
def Jq (c:Cx) (o:Op) (ρ:Operand→PV) (h:AH) (nx:Nat):Option Out:=
 match o with
 | .move x=>ok (ρ x)
 | .assign x=>ok (ρ x)
 | .pick a x y=>match ρ a with
   | .bt =>ok (ρ x)
   | .bf =>ok (ρ y)
   | _=>none
 | .alloc t=>match c.T t with
   | some ti=>some ⟨[],.ptr nx 0,[(nx,.cells ti.z t)]⟩
   | none=>none
 | .box t x=>match cellsOf (ρ x) with
   | some l=>some ⟨[],.ptr nx 0,[(nx,.cells l t)]⟩
   | none=>none
 | .build t ps=>match c.T t with
   | some ⟨.st fs,_,z,_⟩=>match Ds c fs z (ps.toList.map fun q=>(q.1,ρ q.2)) with
     | some l=>ok (.agg l)
     | none=>none
   | _=>none
 | .buildSlice t n ps=>match c.T t with
   | some ⟨.sl te,_,_,sh⟩=>match c.T te with
     | some ti=>if sm ti sh&&Nat.ble n 64 then match lits sh 0 (ps.toList.map fun q=>(q.1,ρ q.2)) with
        | some L=>if Nat.beq L.length n then some ⟨[],.osl nx,[(nx,.own sh L te)]⟩ else none
        | none=>none
       else none
     | none=>none
   | _=>none
 | .load t a=>match c.T t with
   | some ti=>match ρ a with
     | .ptr id off=>match h.get id with
       | some (.cells l _)=>(ldC ti l off).bind ok
       | _=>none
     | .rptr l off=>(ldC ti l off).bind ok
     | .eptr id ix st off=>match h.get id with
       | some (.own sh L _)=>if Nat.beq st sh.length then match ldC ti (mk sh (c.p.get (dE sh) L ix)) off with
          | some v=>okp [c.p.inL ix (c.p.len L)] v
          | none=>none
         else none
       | _=>none
     | _=>none
   | none=>none
 | .store t a x=>match ρ a with
   | .ptr id off=>match h.get id with
     | some (.cells l ty)=>match c.T t,cellsOf (ρ x) with
       | some ti,some vs=>if vs.length==ti.n&&(vs.all PV.one&&Nat.ble (off+vs.length) l.length) then some ⟨[],.tup [],[(id,.cells (stC l off vs) ty)]⟩ else none
       | _,_=>none
     | _=>none
   | .eptr id ix st off=>match h.get id with
     | some (.own sh L ty)=>match c.T t,cellsOf (ρ x) with
       | some ti,some vs=>if Nat.beq st sh.length&&(Nat.beq off 0&&(Nat.beq ti.n st&&vs.all PV.one)) then match unE sh vs with
          | some y=>some ⟨[c.p.inL ix (c.p.len L)],.tup [],[(id,.own sh (c.p.set L ix y) ty)]⟩
          | none=>none
         else none
       | _,_=>none
     | _=>none
   | _=>none
 | .nilCheck x=>match ρ x with
   | .ptr i o=>ok (.ptr i o)
   | .rptr l o=>ok (.rptr l o)
   | .eptr i j s o=>ok (.eptr i j s o)
   | _=>none
 | .binOp op t x y _=>match c.T t with
   | some ⟨.bool,_,_,_⟩=>Kg c.p op (ρ x) (ρ y)
   | _=>bin c.p op (ρ x) (ρ y)
 | .unOp op _ x=>match op,ρ x with
   | .not,v=>(NC v).bind ok
   | .neg,.i k n=>okp [c.p.inK k (c.p.sub 0 n)] (.i k (c.p.sub 0 n))
   | _,_=>none
 | .convert t d x=>match c.T t with
   | some _=>match c.T d with
     | some ⟨.int k,_,_,_⟩=>match ρ x with
       | .i _ n=>okp [c.p.inK k n] (.i k n)
       | _=>none
     | some ⟨.str,_,_,_⟩=>match ρ x with
       | .s l=>ok (.s l)
       | _=>none
     | _=>none
   | none=>none
 | .slice t x lo hi none=>match c.T t,ρ x with
   | some ⟨.str,_,_,_⟩,.s l=>match lo.map ρ,hi.map ρ with
     | none,none=>ok (.s l)
     | some (.i _ a),none=>okp [c.p.leP 0 a,c.p.leP a (c.p.lenS l)] (.s (c.p.drp l a))
     | none,some (.i _ b)=>okp [c.p.leP 0 b,c.p.leP b (c.p.lenS l)] (.s (c.p.tak l b))
     | some (.i _ a),some (.i _ b)=>okp [c.p.leP 0 a,c.p.leP a b,c.p.leP b (c.p.lenS l)] (.s (c.p.drp (c.p.tak l b) a))
     | _,_=>none
   | _,_=>none
 | .fieldAddr t x f=>match c.T t with
   | some ⟨.st fs,_,_,_⟩=>match fs[f]? with
     | some (k,tf)=>match c.T tf with
       | some ti=>if ti.n==0 then none else match ρ x with
         | .ptr id off=>ok (.ptr id (off+k))
         | .rptr l off=>ok (.rptr l (off+k))
         | .eptr id ix st off=>ok (.eptr id ix st (off+k))
         | _=>none
       | none=>none
     | none=>none
   | _=>none
 | .field t x f=>match c.T t with
   | some ⟨.st fs,_,_,_⟩=>match fs[f]? with
     | some (k,tf)=>match ρ x,c.T tf with
       | .agg l,some ti=>(ldC ti l k).bind ok
       | _,_=>none
     | none=>none
   | _=>none
 | .indexAddr t x ix=>match c.T t,ρ x,ρ ix with
   | some ⟨.sl te,_,_,_⟩,.rsl sh L,.i _ n=>match c.T te with
     | some ti=>if ti.n==sh.length then okp [c.p.inL n (c.p.len L)] (.rptr (mk sh (c.p.get (dE sh) L n)) 0) else none
     | none=>none
   | some ⟨.sl te,_,_,_⟩,.osl id,.i _ n=>match h.get id,c.T te with
     | some (.own sh L _),some ti=>if Nat.beq ti.n sh.length then okp [c.p.inL n (c.p.len L)] (.eptr id n sh.length 0) else none
     | _,_=>none
   | _,_,_=>none
 | .index t x ix=>match c.T t,ρ x,ρ ix with
   | some ⟨.str,_,_,_⟩,.s l,.i _ n=>okp [c.p.inL n (c.p.lenS l)] (.i .u8 (c.p.byte l n))
   | _,_,_=>none
 | .extract t ix=>match ρ t with
   | .tup l=>match l[ix]? with
     | some v=>ok v
     | none=>none
   | _=>none
 | .call k=>JY c k ρ h nx
 | _=>none
def bOf:PV→Option Bool
 | .bt =>some true
 | .bf =>some false
 | .b x=>some x
 | .nb x=>some (!x)
 | _=>none
def K2 (f:TypeId→PV→PV→Option Bool) (c:Cx) (l m:List PV):List (Nat×TypeId)→Option Bool
 | []=>some true
 | (k,t)::r=>match c.T t with
   | some ti=>match ldC ti l k,ldC ti m k with
     | some x,some y=>match f t x y with
       | some a=>match r with
         | []=>some a
         | _=>match K2 f c l m r with
           | some b=>some (c.p.and a b)
           | none=>none
       | none=>none
     | _,_=>none
   | none=>none
def eqV (c:Cx):Nat→TypeId→PV→PV→Option Bool
 | n+1,t,x,y=>match c.T t with
   | some ti=>match ti.d with
     | .int _=>match x,y with
       | .i k a,.i k' b=>if k=k' then some (c.p.eqI a b) else none
       | _,_=>none
     | .bool =>match bOf x,bOf y with
       | some a,some b=>some (c.p.eqB a b)
       | _,_=>none
     | .str =>match x,y with
       | .s a,.s b=>some (c.p.eqS a b)
       | _,_=>none
     | .st fs=>match x,y with
       | .agg l,.agg m=>if c.C t then K2 (eqV c n) c l m fs else none
       | _,_=>none
     | _=>none
   | none=>none
 | 0,_,_,_=>none
def bytesOf (h:AH):PV→Option (List Int)
 | .esl =>some []
 | v=>match rowOf h v with
   | some r=>kE r.sh [.i .u8] r.L
   | none=>none
def kindOf (c:Cx) (t:TypeId):Option aw:=match c.T t with
 | some ti=>match ti.sh with
   | [k]=>if k.flat&&(Nat.beq ti.n 1&&!ti.agg) then some k else none
   | _=>none
 | none=>none
def zk:aw→PV→Bool
 | .i k,.i k' n=>if k=k' then n==0 else false
 | .b,.bf =>true
 | .s,.s []=>true
 | _,_=>false
def tF (c:Cx) (t:TypeId):Option (Nat×aw):=match c.T t with
 | some ti=>match ti.d with
   | .arr n te=>match kindOf c te with
     | some k=>if Nat.beq ti.n n&&(Nat.beq ti.z.length n&&ti.z.all (zk k)) then some (n,k) else none
     | none=>none
   | _=>none
 | none=>none
def Ia {α:Type} (c:Cx):Option Nat→List α→Int
 | some n,_=>n
 | none,L=>c.p.len L
def JT (c:Cx) (o:Op) (ρ:Operand→PV) (h:AH) (nx:Nat):Option Out:=
 match o with
 | .convert t d x=>match c.T t,c.T d with
   | some ⟨.sl te,_,_,_⟩,some ⟨.str,_,_,_⟩=>match c.T te with
     | some ⟨.int .u8,_,_,_⟩=>match bytesOf h (ρ x) with
       | some L=>ok (.s (c.p.toS L))
       | none=>none
     | _=>none
   | some ⟨.str,_,_,_⟩,some ⟨.sl te,_,_,_⟩=>match c.T te,ρ x with
     | some ⟨.int .u8,_,_,_⟩,.s l=>some ⟨[],.osl nx,[(nx,.arr (.i .u8) none (c.p.toB l) te)]⟩
     | _,_=>none
   | _,_=>none
 | .alloc t=>match tF c t with
   | some (n,k)=>some ⟨[],.ptr nx 0,[(nx,.arr k (some n) (List.replicate n k.dflt) t)]⟩
   | none=>none
 | .box t x=>match ρ x with
   | .arr k n L=>some ⟨[],.ptr nx 0,[(nx,.arr k (some n) L t)]⟩
   | _=>none
 | .build t ps=>match tF c t,ps.toList with
   | some (n,k),[]=>ok (.arr k n (List.replicate n k.dflt))
   | _,_=>none
 | .load t a=>match ρ a with
   | .ptr id 0=>match h.get id,tF c t with
     | some (.arr k (some n) L _),some (m,_)=>if Nat.beq n m then ok (.arr k n L) else none
     | _,_=>none
   | .eptr id ix st off=>match h.get id,kindOf c t with
     | some (.arr k n L _),some k'=>if Nat.beq st 1&&(Nat.beq off 0&&(eqA k k').isSome) then okp [c.p.inL ix (Ia c n L)] (k.pv (c.p.get k.dflt L ix)) else none
     | _,_=>none
   | _=>none
 | .store t a x=>match ρ a with
   | .ptr id 0=>match h.get id,ρ x,tF c t with
     | some (.arr _ (some n) _ ty),.arr k n' L,some (m,_)=>if Nat.beq n n'&&Nat.beq n m then some ⟨[],.tup [],[(id,.arr k (some n) L ty)]⟩ else none
     | _,_,_=>none
   | .eptr id ix st off=>match h.get id,kindOf c t with
     | some (.arr k n L ty),some k'=>if Nat.beq st 1&&(Nat.beq off 0&&(eqA k k').isSome) then match un1 k (ρ x) with
        | some y=>some ⟨[c.p.inL ix (Ia c n L)],.tup [],[(id,.arr k n (c.p.set L ix y) ty)]⟩
        | none=>none
       else none
     | _,_=>none
   | _=>none
 | .indexAddr t x ix=>match ρ x,ρ ix with
   | .osl id,.i _ n=>match h.get id,c.T t with
     | some (.arr _ _ L _),some ⟨.sl te,_,_,_⟩=>match kindOf c te with
       | some _=>okp [c.p.inL n (c.p.len L)] (.eptr id n 1 0)
       | none=>none
     | _,_=>none
   | .ptr id 0,.i _ n=>match h.get id,tF c t with
     | some (.arr _ (some m') _ _),some (m,_)=>if Nat.beq m m' then okp [c.p.inL n m] (.eptr id n 1 0) else none
     | _,_=>none
   | _,_=>none
 | .index t x ix=>match ρ x,ρ ix with
   | .arr k m' L,.i _ n=>match tF c t with
     | some (m,k')=>if Nat.beq m m'&&(eqA k k').isSome then okp [c.p.inL n m] (k.pv (c.p.get k.dflt L n)) else none
     | none=>none
   | _,_=>none
 | .binOp op t x y _=>match ρ x,ρ y with
   | .agg l,.agg m=>match op,eqV c 5 t (.agg l) (.agg m) with
     | .eql,some r=>ok (.b r)
     | .neq,some r=>ok (.nb r)
     | _,_=>none
   | _,_=>none
 | .call ⟨.builtin .len,⟨[x]⟩,⟨[t]⟩⟩=>match c.T t,ρ x with
   | some ⟨.sl _,_,_,_⟩,.osl id=>match h.get id with
     | some (.arr _ _ L _)=>ok (.i .i64 (c.p.len L))
     | _=>none
   | _,_=>none
 | _=>none
def TT (c:Cx) (t:TypeId):Bool:=match c.T t with
 | some ti=>match ti.d with
   | .st _=>true
   | _=>false
 | none=>false
def IU (c:Cx) (o:Op) (ρ:Operand→PV) (h:AH) (nx:Nat):Option Out:=
 match o with
 | .range t x=>match c.T t,ρ x with
   | some ⟨.str,_,_,_⟩,.s l=>some ⟨[c.p.asc l],.ptr nx 0,[(nx,.it l 0)]⟩
   | _,_=>none
 | .next x true=>match ρ x with
   | .ptr id 0=>match h.get id with
     | some (.it l k)=>some ⟨[],.nx l k,[(id,.it l (c.p.add k 1))]⟩
     | _=>none
   | _=>none
 | .extract t ix=>match ρ t with
   | .nx l k=>match ix with
     | 0=>ok (.b (c.p.ltI k (c.p.lenS l)))
     | 1=>okp [c.p.inL k (c.p.lenS l)] (.i .i64 k)
     | 2=>okp [c.p.inL k (c.p.lenS l)] (.i .i32 (c.p.byte l k))
     | _=>none
   | _=>none
 | .makeInterface t x=>match ρ x with
   | .agg []=>if TT c t then ok (.raw (.iface t (.agg ⟨[]⟩))) else none
   | _=>none
 | .makeFunc (.func f) ⟨[]⟩ cs=>ok (.fn f (cs.toList.map ρ))
 | .makeFunc (.method m) ⟨[x]⟩ ⟨[]⟩=>match ρ x with
   | .raw (.iface t (.agg ⟨[]⟩))=>ok (.raw (.func (.method m) ⟨[.iface t (.agg ⟨[]⟩)]⟩ ⟨[]⟩))
   | _=>none
 | .nilCheck x=>match ρ x with
   | .raw (.func (.method m) ⟨[.iface t (.agg ⟨[]⟩)]⟩ ⟨[]⟩)=>match c.I t m.utf8ByteSize with
     | some (_,s)=>okp [m=s] (.raw (.func (.method m) ⟨[.iface t (.agg ⟨[]⟩)]⟩ ⟨[]⟩))
     | none=>none
   | _=>none
 | .call ⟨.value x,args,_⟩=>match ρ x with
   | .raw (.func (.method m) ⟨[.iface t (.agg ⟨[]⟩)]⟩ ⟨[]⟩)=>match c.I t m.utf8ByteSize with
     | some (g,s)=>match c.F g with
       | some S=>if JN (args.toList.map ρ) then none else match S (nd (.agg []::args.toList.map ρ)) with
         | some out=>some ⟨(m=s)::out.pre,out.v.rn (mv [] nx),rnH (mv [] nx) out.eff⟩
         | none=>none
       | none=>none
     | none=>none
   | _=>none
 | .call ⟨.invoke x m,args,_⟩=>match ρ x with
   | .raw (.iface t (.agg ⟨[]⟩))=>match c.I t m.utf8ByteSize with
     | some (g,s)=>match c.F g with
       | some S=>if JN (args.toList.map ρ) then none else match S (nd (.agg []::args.toList.map ρ)) with
         | some out=>some ⟨(m=s)::out.pre,out.v.rn (mv [] nx),rnH (mv [] nx) out.eff⟩
         | none=>none
       | none=>none
     | none=>none
   | _=>none
 | .call ⟨.builtin .append,⟨[x,y]⟩,⟨[t,t']⟩⟩=>match c.T t,c.T t',ρ y with
   | some ⟨.sl te,_,_,_⟩,some ⟨.str,_,_,_⟩,.s l=>match c.T te,ρ x with
     | some ti,.esl =>if sm ti [.i .u8] then some ⟨[c.p.ltM (c.p.lenS l)],.osl nx,[(nx,.own [.i .u8] (c.p.toB l) te)]⟩ else none
     | some ti,.osl id=>match h.get id with
       | some (.own sh L ty)=>match kE sh [.i .u8] L with
         | some M=>if sm ti [.i .u8]&&Nat.beq ty te then some ⟨[c.p.ltM (c.p.add (c.p.len M) (c.p.lenS l))],.osl nx,[(nx,.own [.i .u8] (c.p.snoc M (c.p.toB l)) te),(id,.gone)]⟩ else none
         | none=>none
       | _=>none
     | _,_=>none
   | _,_,_=>none
 | .call ⟨.builtin .min,⟨[x,y]⟩,_⟩=>match ρ x,ρ y with
   | .i k a,.i _ b=>ok (.i k (c.p.min a b))
   | _,_=>none
 | .makeSlice t n m=>match c.T t with
   | some ⟨.sl te,_,_,sh⟩=>match c.T te with
     | some ti=>if sm ti sh then match unE sh ti.z,n,m,ρ n,ρ m with
        | some y,.tmp x,.tmp x',.i _ a,.i _ _=>if Nat.beq x x' then some ⟨[c.p.leP 0 a,c.p.ltM a],.osl nx,[(nx,.own sh (c.p.rep a y) te)]⟩ else none
        | some _,.const (.int _ l),_,_,.i _ b=>if l==0 then some ⟨[c.p.leP 0 b,c.p.ltM b],.osl nx,[(nx,.own sh [] te)]⟩ else none
        | _,_,_,_,_=>none
       else none
     | none=>none
   | _=>none
 | _=>none
def zd (c:Cx) (h:AH) (te id:Nat) (a:Int) (l:List UInt8):Option Out:=match c.T te,h.get id with
 | some ti,some (.own sh L ty)=>match kE sh [.i .u8] L with
   | some M=>if Nat.beq ti.n 1 then some ⟨[c.p.leP 0 a,c.p.leP (c.p.add a (c.p.lenS l)) (c.p.len M)],.i .i64 (c.p.lenS l),[(id,.own [.i .u8] (c.p.cpy M a (c.p.toB l)) ty)]⟩ else none
   | none=>none
 | _,_=>none
def J6 (c:Cx) (o:Op) (ρ:Operand→PV) (h:AH):Option Out:=
 match o with
 | .convert t d x=>match c.T t,c.T d,ρ x with
   | some ⟨.int _,_,_,_⟩,some ⟨.str,_,_,_⟩,.i _ n=>okp [c.p.inL n 128] (.s (c.p.toS [n]))
   | _,_,_=>none
 | .slice t x (some lo) none none=>match c.T t,ρ x,ρ lo with
   | some ⟨.sl te,_,_,_⟩,.osl id,.i _ a=>match c.T te,h.get id with
     | some ti,some (.own _ L _)=>if Nat.beq ti.n 1 then okp [c.p.leP 0 a,c.p.leP a (c.p.len L)] (.osub id a) else none
     | _,_=>none
   | _,_,_=>none
 | .call ⟨.builtin .copy,⟨[x,y]⟩,⟨[t,t']⟩⟩=>match c.T t,c.T t',ρ y with
   | some ⟨.sl te,_,_,_⟩,some ⟨.str,_,_,_⟩,.s l=>match ρ x with
     | .osl id=>zd c h te id 0 l
     | .osub id a=>zd c h te id a l
     | _=>none
   | _,_,_=>none
 | .call ⟨.builtin .max,⟨[x,y]⟩,_⟩=>match ρ x,ρ y with
   | .i k a,.i _ b=>ok (.i k (c.p.max a b))
   | _,_=>none
 | _=>none
def JL (c:Cx) (o:Op) (ρ:Operand→PV) (h:AH) (nx:Nat):Option Out:=
 match o with
 | .slice t x (some lo) none none=>match c.T t,ρ x,ρ lo with
   | some ⟨.sl te,_,_,_⟩,.rsl sh L,.i _ n=>match c.T te with
     | some ti=>if Nat.beq ti.n sh.length then okp [c.p.leP 0 n,c.p.leP n (c.p.len L)] (.rsl sh (c.p.drL L n)) else none
     | none=>none
   | _,_,_=>none
 | .slice t x (some lo) (some hi) none=>match c.T t,ρ x,ρ lo with
   | some ⟨.sl te,_,_,_⟩,.rsl sh L,.i _ n=>match c.T te,ρ hi with
     | some ti,.i _ m=>if Nat.beq ti.n sh.length then okp [c.p.leP 0 n,c.p.leP n m,c.p.leP m (c.p.len L)] (.rsl sh (c.p.drL (c.p.tkL L m) n)) else none
     | _,_=>none
   | _,_,_=>none
 | .slice t x none (some hi) none=>match c.T t,ρ x,ρ hi with
   | some ⟨.sl te,_,_,_⟩,.rsl sh L,.i _ n=>match c.T te with
     | some _=>okp [c.p.leP 0 n,c.p.leP n (c.p.len L)] (.rsl sh (c.p.tkL L n))
     | none=>none
   | some ⟨.sl te,_,_,_⟩,.osl id,.i _ n=>match c.T te,h.get id with
     | some _,some (.own sh L ty)=>some ⟨[c.p.leP 0 n,c.p.leP n (c.p.len L)],.osl nx,[(nx,.own sh (c.p.tkL L n) ty),(id,.gone)]⟩
     | _,_=>none
   | _,_,_=>none
 | .store t a x=>match ρ a with
   | .eptr id ix st off=>match h.get id with
     | some (.own sh L ty)=>match c.T t,cellsOf (ρ x) with
       | some ti,some vs=>if Nat.beq st sh.length&&(Nat.beq ti.n vs.length&&(vs.all PV.one&&Nat.ble (off+vs.length) st)) then match unE sh (stC (mk sh (c.p.get (dE sh) L ix)) off vs) with
          | some y=>some ⟨[c.p.inL ix (c.p.len L)],.tup [],[(id,.own sh (c.p.set L ix y) ty)]⟩
          | none=>none
         else none
       | _,_=>none
     | _=>none
   | _=>none
 | _=>none
def N2 (p:Pr) (q:Uf) (op:BinOp) (k:IntKind) (a b:Int):Option Out:=
 match op with
 | .add =>if k=.u64 then okp [] (.i .u64 (q.add a b)) else none
 | .mul =>if k=.u64 then okp [] (.i .u64 (q.mul a b)) else none
 | .shr =>okp [p.leP 0 b] (.i .u64 (q.shr a b))
 | .and =>if k=.u64 then okp [p.leP 0 b,p.leP b 9223372036854775807] (.i .u64 (q.msk a b)) else none
 | _=>none
def Ev (c:Cx) (o:Op) (ρ:Operand→PV):Option Out:=match c.U with
 | none=>none
 | some q=>match o with
   | .binOp op _ x y _=>match ρ x,ρ y with
     | .i .u64 a,.i k b=>N2 c.p q op k a b
     | _,_=>none
   | _=>none
def aop (c:Cx) (o:Op) (ρ:Operand→PV) (h:AH) (nx:Nat):Option Out:=match Ev c o ρ with
 | some out=>some out
 | none=>match JT c o ρ h nx with
 | some out=>some out
 | none=>match IU c o ρ h nx with
   | some out=>some out
   | none=>match Jq c o ρ h nx with
     | some out=>some out
     | none=>match J6 c o ρ h with
       | some out=>some out
       | none=>JL c o ρ h nx
structure AS where
 tm:List PV
 h:AH
 nx:Nat
def put (tm:List PV) (d:Option Nat) (v:PV):List PV:=match d with | some t=>tm.set t v | none=>tm
def E4:List Prop→Prop→Prop
 | [],r=>r
 | p::ps,r=>p∧E4 ps r
def hold (Q:AS→Prop) (s:AS):Prop:=∀_:Unit,Q s
def CB (a:Nat) (l:List Nat) (f:List Nat→List Nat):List Nat→List Nat
 | []=>a::l
 | b::m=>if Nat.beq a b then a::f m else if Nat.ble a b then b::CB a l f m else a::f (b::m)
def uni:List Nat→List Nat→List Nat
 | []=>fun m=>m
 | a::l=>CB a l (uni l)
def IS (ps:List (List Nat)):List Edge→List Nat→List Nat
 | [],l=>l
 | e::r,l=>IS ps r (if Region.binds .any e then uni (e.on::ps.getD e.on []) l else l)
def closure (ps:List (List Nat)) (o:Oper):List Nat:=IS ps o.after.toList []
def viewAt (p:List Nat):Nat→List AH→AH→AH
 | _,[],h0=>h0
 | i,[]::r,h0=>viewAt p (i+1) r h0
 | i,(q::e)::r,h0=>viewAt p (i+1) r (if p.contains i then (q::e)++h0 else h0)
def fO (nx:Nat):AH→Nat
 | []=>nx
 | (k,_)::r=>fO (if k<nx then nx else k+1) r
def Ay (b:Bool):PV:=if b then .bt else .bf
structure Rg where
 c:Cx
 draw:Bool
 dsts:List (Option Nat)
 h0:AH
def oid:PV→List Nat
 | .ptr id _=>[id]
 | .osl id=>[id]
 | .eptr id _ _ _=>[id]
 | .osub id _=>[id]
 | _=>[]
def Kz (o:Op) (ρ:Operand→PV) (h:AH):List Nat:=
 match o with
 | .load _ a=>oid (ρ a)
 | .store _ a _=>oid (ρ a)
 | .indexAddr _ x _=>oid (ρ x)
 | .slice _ x _ _ _=>oid (ρ x)
 | .convert _ _ x=>oid (ρ x)
 | .next x _=>oid (ρ x)
 | .call ⟨.builtin _,args,_⟩=>args.toList.flatMap fun x=>oid (ρ x)
 | .call ⟨.value f,args,_⟩=>reach h 60 (oa (ρ f::args.toList.map ρ)) []
 | _=>[]
def cut (T:List Nat):AH→AH
 | []=>[]
 | q::r=>if T.contains q.1 then q::cut T r else cut T r
def free (ts:List (List Nat)) (ps:List (List Nat)) (j:Nat) (ks:List Nat):Nat→Bool
 | 0=>true
 | i+1=>(Nat.beq i j||((ts.getD i []).all (fun x=>!ks.contains x)||((ps.getD j []).contains i||(ps.getD i []).contains j)))&&free ts ps j ks i
def apart (ts ps:List (List Nat)):List AH→Nat→Bool
 | [],_=>true
 | []::r,j=>apart ts ps r (j+1)
 | (q::x)::r,j=>free ts ps j ((q::x).map (·.1)) ts.length&&apart ts ps r (j+1)
def o7 (T:List Nat):AH→AH
 | []=>[]
 | q::r=>if T.contains q.1 then o7 T r else q::o7 T r
def Lk (h:AH):PV→Bool
 | .ptr id _=>match h.get id with
   | some (.cells (.rsl [.i .u8] _::_) _)=>false
   | some (.cells _ _)=>true
   | _=>false
 | .osl _=>true
 | _=>false
def xI (S:d7) (h:AH) (r:List Nat) (nx:Nat) (vs:List PV) (b:Bool):Option H8:=
 if closed h r nx vs then match S (yX h r 0 r) (nd (rnL (idx r) vs)) with
  | some n=>some ⟨n.α,if b then (∀x,((n.v x).ro ||roH (n.eff x))=false)::n.pre else n.pre,n.Q,fun x=>(n.v x).rn (mv r nx),fun x=>rnH (mv r nx) (n.eff x)⟩
  | none=>none
 else none
def ncall (c:Cx) (o:Op) (ρ:Operand→PV) (h:AH) (nx:Nat):Option H8:=
 match o with
 | .call ⟨.value f,args,ts⟩=>match ρ f with
   | .fn g cap=>match c.N g with
     | some S=>
       let vs:=pj c ts.toList (args.toList.map ρ++cap)
       match xI S h (reach h 60 (oa vs) []) nx vs false with
       | some n=>some n
       | none=>if vs.any (Lk h) then
         let r:=reach h 60 (oa (vs.filter fun v=>!Lk h v)) []
         xI S (cut r h) r nx (vs.map fun v=>if Lk h v then deep (o7 r h) 12 v else v) true
         else none
     | none=>none
   | _=>none
 | _=>none
def o3 (g:Rg) (Q:AS→Prop):List Oper→Nat→List (List Nat)→List (List Nat)→List AH→List PV→Nat→Prop
 | [],_,ps,ts,effs,tm,nx=>if (!g.draw||apart ts ps effs 0)=true then hold Q ⟨tm,effs.foldl (fun h e=>e++h) g.h0,nx⟩ else False
 | o::r,i,ps,ts,effs,tm,nx=>
   let p:=if g.draw then closure ps o else []
   let h:=if g.draw then viewAt p 0 effs g.h0 else effs.foldl (fun h e=>e++h) g.h0
   let skip:=fun tm:List PV=>o3 g Q r (i+1) (ps++[p]) (ts++[[]]) (effs++[[]]) (put tm o.dst (.tup [])) nx
   let run:=fun tm:List PV=>
    let T:=if g.draw then Kz o.op (ev tm) h else []
    match (if g.draw then none else ncall g.c o.op (ev tm) h nx) with
    | some n=>E4 n.pre (∀x:Nd n.α,n.Q x.x→o3 g Q r (i+1) (ps++[p]) (ts++[T]) (effs++[n.eff x.x]) (put tm o.dst (n.v x.x)) (fO nx (n.eff x.x)))
    | none=>match aop g.c o.op (ev tm) (if g.draw then cut T h else h) nx with
    | some out=>E4 out.pre (o3 g Q r (i+1) (ps++[p]) (ts++[T]) (effs++[out.eff]) (put tm o.dst out.v) (fO nx out.eff))
    | none=>False
   match o.guard with
   | none=>match o.op with
     | .pick (.tmp t) _ _=>match tm.getD t .dead with
       | .b x=>(x=true→run (tm.set t .bt))∧(x=false→run (tm.set t .bf))
       | .nb x=>(x=false→run (tm.set t .bt))∧(x=true→run (tm.set t .bf))
       | _=>run tm
     | _=>run tm
   | some (j,want)=>match g.dsts.getD j none with
     | some t=>match tm.getD t .dead with
       | .b x=>(x=want→run (tm.set t (Ay want)))∧(x=!want→skip (tm.set t (Ay (!want))))
       | .nb x=>(x=!want→run (tm.set t (Ay want)))∧(x=want→skip (tm.set t (Ay (!want))))
       | .bt =>if want then run tm else skip tm
       | .bf =>if want then skip tm else run tm
       | .tup []=>skip tm
       | _=>False
     | none=>False
inductive AEx where
 | normal | exit (id:Nat) | ret
structure LI where
 tm:List (Nat×PV)
 h:AH
 nx:Nat
def Hu (t:Nat):List (Nat×PV)→PV
 | []=>.dead
 | (k,v)::r=>if k==t then v else Hu t r
def CC:List Nat→List PV→List PV
 | [],tm=>tm
 | t::r,tm=>CC r (tm.set t .dead)
def rmO (k:Nat):AH→AH
 | []=>[]
 | (j,o)::r=>if Nat.beq j k then rmO k r else (j,o)::rmO k r
def KH:AH→AH
 | []=>[]
 | (k,o)::r=>(k,o)::rmO k (KH r)
def O9:List Nat→AS→AS
 | [],st=>st
 | t::r,st=>⟨CC (t::r) st.tm,KH st.h,st.nx⟩
def LI.as (n:Nat) (l:LI):AS:=⟨(List.range n).map fun t=>Hu t l.tm,l.h,l.nx⟩
structure Env where
 adr:Nat→Option Addr
 cap:Nat→Nat
 len:Nat→Nat
 fz:Nat→Prop
 on:Nat→Prop
 lv:Nat→Prop
def SlR {α:Type} (fz:Nat→Prop) (n:Nat) (P:Nat→Nat→α→Prop) (L:List α) (v:Value):Prop:=
 ∃a cap,v=.slice a L.length cap∧L.length≤cap∧∀i x,L[i]? =some x→∃b o,a=some ⟨b,o,none⟩∧fz b∧P b (o+i*n) x
def RE2 {x:Type} (w:World) (P:x→Value→Prop) (b o:Nat) (e:x):Prop:=∃u,w.cell? ⟨b,o,none⟩=some u∧P e u
mutual
def RA (w:World) (fz:Nat→Prop):(t:aw)→t.Ty→Value→Prop
 | .i k,x,v=>v=.int k x
 | .b,x,v=>v=.bool x
 | .s,x,v=>v=.string ⟨x.toArray⟩
 | .r sh,x,v=>SlR fz sh.length (RE w fz sh) x v
def RE (w:World) (fz:Nat→Prop):(sh:List aw)→Nat→Nat→El sh→Prop
 | [],_,_,_=>True
 | t::ts,b,o,e=>REs w fz (RA w fz t) ts b o e
def REs (w:World) (fz:Nat→Prop) {x:Type} (P:x→Value→Prop):(ts:List aw)→Nat→Nat→EL2 x ts→Prop
 | [],b,o,e=>RE2 w P b o e
 | t::ts,b,o,e=>RE2 w P b o e.1∧REs w fz (RA w fz t) ts b (o+1) e.2
end
def aw.val:(t:aw)→t.Ty→Value
 | .i k,n=>.int k n
 | .b,x=>.bool x
 | .s,l=>.string ⟨l.toArray⟩
 | .r _,_=>undef
def nxV (l:List UInt8) (k:Int):Value:=if k<l.length then .tuple #[.bool true,.int .i64 k,.int .i32 (l.getD k.toNat 0).toNat] else .tuple #[.bool false]
mutual
def R (w:World) (e:Env):PV→Value→Prop
 | .bt,v=>v=.bool true
 | .bf,v=>v=.bool false
 | .b x,v=>v=.bool x
 | .nb x,v=>v=.bool (!x)
 | .i k n,v=>v=.int k n
 | .s l,v=>v=.string ⟨l.toArray⟩
 | .ptr id off,v=>e.on id∧∃b,e.adr id=some ⟨b,0,none⟩∧v=.pointer (some ⟨b,off,none⟩)
 | .nilp,v=>v=.pointer none
 | .rptr cs off,v=>∃b o,v=.pointer (some ⟨b,o+off,none⟩)∧e.fz b∧Rc w e b o cs
 | .rsl sh L,v=>SlR e.fz sh.length (RE w e.fz sh) L v
 | .osl id,v=>e.on id∧v=.slice (e.adr id) (e.len id) (e.cap id)
 | .esl,v=>v=.slice none 0 0
 | .eptr id ix st off,v=>e.on id∧∃b,e.adr id=some ⟨b,0,none⟩∧v=.pointer (some ⟨b,ix.toNat*st+off,none⟩)
 | .osub id lo,v=>e.on id∧0≤lo∧lo.toNat≤e.len id∧v=.slice (if e.cap id=lo.toNat then e.adr id else (e.adr id).map (·.add lo.toNat)) (e.len id-lo.toNat) (e.cap id-lo.toNat)
 | .agg l,v=>∃vs,v=.agg vs∧Rs w e l vs.toList
 | .tup l,v=>∃vs,v=.tuple vs∧Rs w e l vs.toList
 | .arr k n L,v=>k.flat=true∧L.length=n∧v=.agg (L.map k.val).toArray
 | .fn f cap,v=>∃vs,v=.func (.func f) #[] vs∧Rs w e cap vs.toList
 | .nx l k,v=>0≤k∧v=nxV l k
 | .raw u,v=>v=u
 | .dead,_=>True
def Rs (w:World) (e:Env):List PV→List Value→Prop
 | [],vs=>vs=[]
 | p::ps,vs=>∃u us,vs=u::us∧R w e p u∧Rs w e ps us
def Rc (w:World) (e:Env) (b:Nat):Nat→List PV→Prop
 | _,[]=>True
 | o,p::ps=>(∃u,w.cell? ⟨b,o,none⟩=some u∧R w e p u)∧Rc w e b (o+1) ps
end
def OR (w:World) (e:Env) (id:Nat):Ob→Prop
 | .cells l ty=>∃b vs,e.adr id=some ⟨b,0,none⟩∧¬e.fz b∧w.heap[b]? =some (.cells vs ty (0,0))∧Rs w e l vs.toList
 | .own sh L ty=>e.len id=L.length∧((e.adr id=none∧L=[]∧e.cap id=0)∨∃b vs,e.adr id=some ⟨b,0,none⟩∧¬e.fz b∧
    w.heap[b]? =some (.cells vs ty (0,0))∧vs.size=e.cap id*sh.length∧(L.length≤e.cap id∧e.cap id≤maxLen)∧∀i x,L[i]? =some x→RE w e.fz sh b (i*sh.length) x)
 | .arr k n L ty=>k.flat=true∧e.len id=L.length∧∃(b:Nat) (vs:Array Value) (fr:Nat×Nat),e.adr id=some ⟨b,0,none⟩∧¬e.fz b∧w.heap[b]? =some (.cells vs ty fr)∧(fr=(0,0)∨vs.size≤fr.1)∧L.length≤e.cap id∧L.length≤vs.size∧(∀m,n=some m→L.length=m∧vs.size=m)∧∀(i:Nat) (x:k.Ty),L[i]? =some x→vs[i]? =some (k.val x)
 | .it l k=>(∀c∈l,c.toNat<128)∧0≤k∧∃b,e.adr id=some ⟨b,0,none⟩∧¬e.fz b∧w.heap[b]? =some (.stringIter ⟨l.toArray⟩ (min k.toNat l.length))
 | .gone =>True
def Env.blk (e:Env) (id b:Nat):Prop:=∃a,e.adr id=some a∧a.block=b
theorem bm {w:World} {e:Env} : ∀{l:List PV} {vs:List Value},Rs w e l vs→vs.length=l.length
 | [],vs,h=>by unfold Rs at h;subst h;rfl
 | p::ps,vs,h=>by
   unfold Rs at h
   obtain⟨u,us,rfl, -,h⟩:=h
   simp [bm h]
theorem mB {w:World} {e:Env} : ∀{l:List PV} {vs:List Value} {i:Nat} {p:PV},Rs w e l vs→l[i]? =some p→∃u,vs[i]? =some u∧R w e p u
 | [],vs,i,p,h,hp=>by simp at hp
 | q::ps,vs,i,p,h,hp=>by
   unfold Rs at h
   obtain⟨u,us,rfl,h1,h2⟩:=h
   cases i with
   | zero=>simp at hp;subst hp;exact⟨u,rfl,h1⟩
   | succ i=>simp at hp;obtain⟨v,hv,h3⟩:=mB h2 hp;exact⟨v,by simpa using hv,h3⟩
theorem pM {w:World} {e:Env} : ∀{l:List PV} {vs:List Value},vs.length=l.length→(∀(i:Nat) (p:PV) (u:Value),l[i]? =some p→vs[i]? =some u→R w e p u)→Rs w e l vs
 | [],vs,hl,_=>by unfold Rs;exact List.eq_nil_of_length_eq_zero hl
 | p::ps,[],hl,_=>by simp at hl
 | p::ps,u::us,hl,h=>by
   unfold Rs
   exact⟨u,us,rfl,h 0 p u rfl rfl,pM (by simpa using hl) fun (i:Nat) (q:PV) (v:Value) h1 h2=>h (i+1) q v (by simpa using h1) (by simpa using h2)⟩
theorem Kn {w:World} {e:Env} {b:Nat} : ∀{l:List PV} {o i:Nat} {p:PV},Rc w e b o l→l[i]? =some p→∃u,w.cell? ⟨b,o+i,none⟩=some u∧R w e p u
 | [],o,i,p,_,hp=>by simp at hp
 | q::ps,o,i,p,h,hp=>by
   unfold Rc at h
   obtain⟨⟨u,h1,h2⟩,h3⟩:=h
   cases i with
   | zero=>simp at hp;subst hp;exact⟨u,h1,h2⟩
   | succ i=>simp at hp;obtain⟨v,hv,h4⟩:=Kn h3 hp;exact⟨v,by rw [show o+(i+1)=o+1+i from by omega];exact hv,h4⟩
theorem JP {w:World} {e:Env} {b:Nat} : ∀{l:List PV} {o:Nat},(∀i p,l[i]? =some p→∃u,w.cell? ⟨b,o+i,none⟩=some u∧R w e p u)→Rc w e b o l
 | [],o,_=>by unfold Rc;trivial
 | p::ps,o,h=>by
   unfold Rc
   refine⟨h 0 p rfl,JP fun i q hq=>?_⟩
   obtain⟨u,h1,h2⟩:=h (i+1) q (by simpa using hq)
   exact⟨u,by rw [show o+1+i=o+(i+1) from by omega];exact h1,h2⟩
def Same (fz:Nat→Prop) (w w':World):Prop:=∀b,fz b→w'.heap[b]? =w.heap[b]?
theorem Same.cell {fz:Nat→Prop} {w w':World} (h:Same fz w w') {b o:Nat} (hb:fz b):w'.cell? ⟨b,o,none⟩=w.cell? ⟨b,o,none⟩:=World.cell?_of_block (w:=w) (h b hb)
mutual
theorem og {fz fz':Nat→Prop} {w w':World} (h:Same fz w w') (hz : ∀b,fz b→fz' b) : ∀(t:aw) (x:t.Ty) (v:Value),RA w fz t x v→RA w' fz' t x v
 | .i _,_,_,hr=>by unfold RA at *;exact hr
 | .b,_,_,hr=>by unfold RA at *;exact hr
 | .s,_,_,hr=>by unfold RA at *;exact hr
 | .r sh,x,v,hr=>by
   unfold RA at *
   obtain⟨a,c,h1,h2,h3⟩:=hr
   refine⟨a,c,h1,h2,fun i y hy=>?_⟩
   obtain⟨b,o,ha,hb,hp⟩:=h3 i y hy
   exact⟨b,o,ha,hz b hb,sf h hz sh b _ y (fun _=>h.cell hb) hp⟩
theorem sf {fz fz':Nat→Prop} {w w':World} (h:Same fz w w') (hz : ∀b,fz b→fz' b) : ∀(sh:List aw) (b o:Nat) (x:El sh),(∀o,w'.cell? ⟨b,o,none⟩=w.cell? ⟨b,o,none⟩)→RE w fz sh b o x→RE w' fz' sh b o x
 | [],_,_,_,_,_=>by unfold RE;trivial
 | t::ts,b,o,x,hb,hr=>by unfold RE at *;exact DB h hz (fun x v=>og h hz t x v) ts b o x hb hr
theorem DB {fz fz':Nat→Prop} {w w':World} (h:Same fz w w') (hz : ∀b,fz b→fz' b) {y:Type} {P P':y→Value→Prop} (hP : ∀x v,P x v→P' x v) : ∀(ts:List aw) (b o:Nat) (x:EL2 y ts),(∀o,w'.cell? ⟨b,o,none⟩=w.cell? ⟨b,o,none⟩)→REs w fz P ts b o x→REs w' fz' P' ts b o x
 | [],b,o,x,hb,hr=>by
   unfold REs RE2 at *
   obtain⟨u,h1,h2⟩:=hr
   exact⟨u,(hb _).trans h1,hP _ _ h2⟩
 | t::ts,b,o,x,hb,hr=>by
   unfold REs RE2 at *
   obtain⟨⟨u,h1,h2⟩,h3⟩:=hr
   exact⟨⟨u,(hb _).trans h1,hP _ _ h2⟩,DB h hz (fun x v=>og h hz t x v) ts b (o+1) x.2 hb h3⟩
end
structure Env.Le (e e':Env):Prop where
 on : ∀id,e.on id→e'.on id
 adr : ∀id,e.on id→e'.adr id=e.adr id
 cap : ∀id,e.on id→e'.cap id=e.cap id
 len : ∀id,e.on id→e'.len id=e.len id
 fz : ∀b,e.fz b→e'.fz b
theorem Env.Le.refl (e:Env):e.Le e:=⟨fun _ h=>h,fun _ _=>rfl,fun _ _=>rfl,fun _ _=>rfl,fun _ h=>h⟩
mutual
theorem jt {e e':Env} {w w':World} (h:Same e.fz w w') (he:e.Le e') : ∀(p:PV) (v:Value),R w e p v→R w' e' p v
 | .bt,_,hr=>by unfold R at *;exact hr
 | .bf,_,hr=>by unfold R at *;exact hr
 | .b _,_,hr=>by unfold R at *;exact hr
 | .nb _,_,hr=>by unfold R at *;exact hr
 | .i _ _,_,hr=>by unfold R at *;exact hr
 | .s _,_,hr=>by unfold R at *;exact hr
 | .ptr id off,v,hr=>by unfold R at *;obtain⟨hi,b,h1,h2⟩:=hr;exact⟨he.on id hi,b,by rw [he.adr id hi];exact h1,h2⟩
 | .nilp,_,hr=>by unfold R at *;exact hr
 | .rptr cs off,v,hr=>by unfold R at *;obtain⟨b,o,h1,h2,h3⟩:=hr;exact⟨b,o,h1,he.fz b h2,G8 h he cs b o h2 h3⟩
 | .rsl sh L,v,hr=>by
   unfold R at *
   obtain⟨a,c,h1,h2,h3⟩:=hr
   refine⟨a,c,h1,h2,fun i y hy=>?_⟩
   obtain⟨b,o,ha,hb,hp⟩:=h3 i y hy
   exact⟨b,o,ha,he.fz b hb,sf h he.fz sh b _ y (fun _=>h.cell hb) hp⟩
 | .osl id,v,hr=>by unfold R at *;obtain⟨hi,hr⟩:=hr;exact⟨he.on id hi,by rw [he.adr id hi,he.cap id hi,he.len id hi];exact hr⟩
 | .eptr id ix st off,v,hr=>by unfold R at *;obtain⟨hi,b,h1,h2⟩:=hr;exact⟨he.on id hi,b,by rw [he.adr id hi];exact h1,h2⟩
 | .osub id lo,v,hr=>by unfold R at *;obtain⟨hi,h0,h1,h2⟩:=hr;exact⟨he.on id hi,h0,by rw [he.len id hi];exact h1,by rw [he.adr id hi,he.cap id hi,he.len id hi];exact h2⟩
 | .esl,_,hr=>by unfold R at *;exact hr
 | .agg l,v,hr=>by unfold R at *;obtain⟨vs,h1,h2⟩:=hr;exact⟨vs,h1,gD h he l _ h2⟩
 | .tup l,v,hr=>by unfold R at *;obtain⟨vs,h1,h2⟩:=hr;exact⟨vs,h1,gD h he l _ h2⟩
 | .fn f l,v,hr=>by unfold R at *;obtain⟨vs,h1,h2⟩:=hr;exact⟨vs,h1,gD h he l _ h2⟩
 | .arr _ _ _,_,hr=>by unfold R at *;exact hr
 | .nx _ _,_,hr=>by unfold R at *;exact hr
 | .raw _,_,hr=>by unfold R at *;exact hr
 | .dead,_,_=>by unfold R;trivial
theorem gD {e e':Env} {w w':World} (h:Same e.fz w w') (he:e.Le e') : ∀(l:List PV) (vs:List Value),Rs w e l vs→Rs w' e' l vs
 | [],_,hr=>by unfold Rs at *;exact hr
 | p::ps,vs,hr=>by
   unfold Rs at *
   obtain⟨u,us,h1,h2,h3⟩:=hr
   exact⟨u,us,h1,jt h he p u h2,gD h he ps us h3⟩
theorem G8 {e e':Env} {w w':World} (h:Same e.fz w w') (he:e.Le e') : ∀(l:List PV) (b o:Nat),e.fz b→Rc w e b o l→Rc w' e' b o l
 | [],_,_,_,_=>by unfold Rc;trivial
 | p::ps,b,o,hb,hr=>by
   unfold Rc at *
   obtain⟨⟨u,h1,h2⟩,h3⟩:=hr
   exact⟨⟨u,(h.cell hb).trans h1,jt h he p u h2⟩,G8 h he ps b (o+1) hb h3⟩
end
theorem rV {e e':Env} {w w':World} {id:Nat} {o:Ob} (h:Same e.fz w w') (he:e.Le e') (hi:e.on id) (hz : ∀b,e.blk id b→(e'.fz b→e.fz b)∧w'.heap[b]? =w.heap[b]?) (hr:OR w e id o):OR w' e' id o:=by
 cases o with
 | cells l ty=>
   obtain⟨b,vs,h1,h2,h3,h4⟩:=hr
   obtain⟨z1,z2⟩:=hz b ⟨_,h1,rfl⟩
   exact⟨b,vs,by rw [he.adr id hi];exact h1,fun x=>h2 (z1 x),z2.trans h3,gD h he l _ h4⟩
 | own sh L ty=>
   obtain⟨h0,hr⟩:=hr
   refine⟨by rw [he.len id hi];exact h0,?_⟩
   rcases hr with ⟨h1,h2,h3⟩ | ⟨b,vs,h1,h2,h3,h4,h5,h6⟩
   ·exact .inl ⟨by rw [he.adr id hi];exact h1,h2,by rw [he.cap id hi];exact h3⟩
   ·obtain⟨z1,z2⟩:=hz b ⟨_,h1,rfl⟩
    refine .inr ⟨b,vs,by rw [he.adr id hi];exact h1,fun x=>h2 (z1 x),z2.trans h3,by rw [he.cap id hi];exact h4,by rw [he.cap id hi];exact h5,fun i x hx=>?_⟩
    exact sf h he.fz sh b _ x (fun o=>World.cell?_of_block (w:=w) z2) (h6 i x hx)
 | arr k n L ty=>
   obtain⟨q,h0,b,vs,fr,h1,h2,h3,h4,h5,h6,h7,h8⟩:=hr
   obtain⟨z1,z2⟩:=hz b ⟨_,h1,rfl⟩
   exact⟨q,by rw [he.len id hi];exact h0,b,vs,fr,by rw [he.adr id hi];exact h1,fun x=>h2 (z1 x),z2.trans h3,h4,by rw [he.cap id hi];exact h5,h6,h7,h8⟩
 | it l k=>
   obtain⟨q1,q2,b,h1,h2,h3⟩:=hr
   obtain⟨z1,z2⟩:=hz b ⟨_,h1,rfl⟩
   exact⟨q1,q2,b,by rw [he.adr id hi];exact h1,fun x=>h2 (z1 x),z2.trans h3⟩
 | gone=>trivial
end Ax
end Go.Proofs.YtjjonmhpgkahoaaGreatDoor
