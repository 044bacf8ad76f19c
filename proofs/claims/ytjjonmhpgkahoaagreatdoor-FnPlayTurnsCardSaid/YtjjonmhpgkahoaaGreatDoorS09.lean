/-
  What a law is handed, as plain values: by the table of types; The plain walker: calls whose result is bounded, not told; The plain walker: the table of this program's types. PRINTED BY wip/mkty.py.
  Conditions: the table is as the program has it; none.
-/
import Derived.Test.YtjjonmhpgkahoaaGreatDoorS08
import Derived.ProofKit
import Derived.Lay
import Derived.Carry
import Derived.ChangeArms
import Derived.Deep.Slices
import Derived.Lib.SmallJoins
import Derived.WideShapes
import Derived.Test.YtjjonmhpgkahoaaGreatDoorProg
import Derived.KernelRfl
set_option linter.unusedSimpArgs false
set_option linter.unusedVariables false
namespace Go.Proofs.YtjjonmhpgkahoaaGreatDoor
namespace Ax
open Go.RowKit Go.WideShapes
set_option maxRecDepth 100000
mutual
def SzA:(t:AtTy)→t.Ty→Prop
 | .i k,x=>k.min≤x∧x≤k.max
 | .b,_=>True
 | .s,x=>(x.length:Int)≤9223372036854775807
 | .r sh,x=>(x.length:Int)≤9223372036854775807∧∀e∈x,SzE sh e
def SzE:(sh:List AtTy)→El sh→Prop
 | [],_=>True
 | t::ts,e=>SzEs (SzA t) ts e
def SzEs {x:Type} (P:x→Prop):(ts:List AtTy)→EL2 x ts→Prop
 | [],e=>P e
 | t::ts,e=>P e.1∧SzEs (SzA t) ts e.2
end
def flatF (f:TypeId→Option (List AtTy)):List (Nat×TypeId)→Nat→Option (List AtTy)
 | [],_=>some []
 | (o,t)::r,k=>if Nat.beq o k then match f t with
   | some sh=>match flatF f r (k+sh.length) with
     | some s=>some (sh++s)
     | none=>none
   | none=>none else none
def flatD (f:TypeId→Option (List AtTy)):TD→Option (List AtTy)
 | .int k=>some [.i k]
 | .bool =>some [.b]
 | .str =>some [.s]
 | .sl e=>match f e with
   | some (a::sh)=>some [.r (a::sh)]
   | _=>none
 | .st fs=>flatF f fs 0
 | _=>none
def flatT (T:TypeId→Option TI):Nat→TypeId→Option (List AtTy)
 | 0,_=>none
 | n+1,t=>match T t with
   | some ti=>match flatD (flatT T n) ti.d with
     | some s=>if Nat.beq ti.n s.length then some s else none
     | none=>none
   | none=>none
def VOk (w:World) (fz:Nat→Prop):List AtTy→List PV→List Value→Prop
 | [],l,cs=>l=[]∧cs=[]
 | a::r,l,cs=>∃x u l' cs',l=a.pv x::l'∧cs=u::cs'∧SzA a x∧RA w fz a x u∧VOk w fz r l' cs'
section
variable {w:World} {fz:Nat→Prop}
theorem VOk.len : ∀{sh:List AtTy} {l:List PV} {cs:List Value},VOk w fz sh l cs→cs.length=sh.length
 | [],_,_,h=>by rw [h.2];rfl
 | _::r,_,_,h=>by
   obtain⟨x,u,l',cs',rfl,rfl, -, -,h⟩:=h
   simp [h.len]
theorem VOk.app : ∀{sh:List AtTy} {l:List PV} {cs:List Value} {sh':List AtTy} {l':List PV} {cs':List Value},VOk w fz sh l cs→VOk w fz sh' l' cs'→VOk w fz (sh++sh') (l++l') (cs++cs')
 | [],_,_,_,_,_,h,h'=>by rw [h.1,h.2];exact h'
 | a::r,_,_,_,_,_,h,h'=>by
   obtain⟨x,u,l1,cs1,rfl,rfl,h1,h2,h⟩:=h
   exact⟨x,u,l1++_,cs1++_,rfl,rfl,h1,h2,h.app h'⟩
theorem RAp_R {e:Env} : ∀(a:AtTy) (x:a.Ty) (u:Value),RA w e.fz a x u→R w e (a.pv x) u
 | .i _,_,_,h=>by unfold RA at h;unfold AtTy.pv R;exact h
 | .b,_,_,h=>by unfold RA at h;unfold AtTy.pv R;exact h
 | .s,_,_,h=>by unfold RA at h;unfold AtTy.pv R;exact h
 | .r _,_,_,h=>by unfold RA at h;unfold AtTy.pv R;exact h
theorem VOk.Rs {e:Env} : ∀{sh:List AtTy} {l:List PV} {cs:List Value},VOk w e.fz sh l cs→Ax.Rs w e l cs
 | [],_,_,h=>by rw [h.1,h.2];unfold Ax.Rs;rfl
 | a::r,_,_,h=>by
   obtain⟨x,u,l',cs',rfl,rfl, -,h2,h⟩:=h
   unfold Ax.Rs
   exact⟨u,cs',rfl,RAp_R a x u h2,h.Rs⟩
theorem VOk.els {α:Type} {f:α→PV} {P:α→Value→Prop} {Q:α→Prop} : ∀{ts:List AtTy} {l:List PV} {cs:List Value} (x:α) (u:Value),VOk w fz ts l cs→P x u→Q x→
 ∃e:EL2 α ts,f x::l=mk2 f ts e∧SzEs Q ts e∧∀b o,(∀j v,(u::cs)[j]? =some v→w.cell? ⟨b,o+j,none⟩=some v)→REs w fz P ts b o e
 | [],_,_,x,u,h,hp,hq=>by
   rw [h.1,h.2]
   exact⟨x,rfl,by unfold SzEs;exact hq,fun b o hc=>by unfold REs RE2;exact⟨u,hc 0 u rfl,hp⟩⟩
 | t::ts,_,_,x,u,h,hp,hq=>by
   obtain⟨y,v,l',cs',rfl,rfl,h1,h2,h⟩:=h
   obtain⟨e,g1,g2,g3⟩:=VOk.els (f:=t.pv) (P:=RA w fz t) (Q:=SzA t) y v h h2 h1
   refine⟨(x,e),by rw [g1];rfl,by unfold SzEs;exact⟨hq,g2⟩,fun b o hc=>?_⟩
   unfold REs RE2
   exact⟨⟨u,hc 0 u rfl,hp⟩,g3 b (o+1) fun j v' hv=>by rw [show o+1+j=o+(j+1) from by omega];exact hc (j+1) v' (by simpa using hv)⟩
theorem VOk.el {a:AtTy} {sh:List AtTy} {l:List PV} {cs:List Value} (h:VOk w fz (a::sh) l cs) :
 ∃e:El (a::sh),l=mk (a::sh) e∧SzE (a::sh) e∧∀b o,(∀j v,cs[j]? =some v→w.cell? ⟨b,o+j,none⟩=some v)→RE w fz (a::sh) b o e:=by
 obtain⟨x,u,l',cs',rfl,rfl,h1,h2,h⟩:=h
 obtain⟨e,g1,g2,g3⟩:=VOk.els (f:=a.pv) (P:=RA w fz a) (Q:=SzA a) x u h h2 h1
 exact⟨e,g1,by unfold SzE;exact g2,fun b o hc=>by unfold RE;exact g3 b o hc⟩
end
section
variable {H:Type} {enc:TypeId×Value→H} {P:Program} {T:TypeId→Option TI} {w:World} {spare:Nat→Bool} {held:Bool}
theorem cells_n (hT : ∀t ti,T t=some ti→TyOk P t ti) {t:TypeId} {ti:TI} (h:T t=some ti):P.cellsOf t=ti.n:=by
 obtain⟨i,h1,h2, -⟩:=(hT t ti h).info
 simp [Program.cellsOf,h1,h2]
theorem spot_none {a:Addr} {u:Value} (h:w.cell? a=some u):a=⟨a.block,a.off,none⟩:=by
 unfold World.cell? at h
 split at h
 ·split at h
  ·cases h
  ·rename_i hs
   cases hsp:a.spot with
   | none=>cases a;simp at hsp;subst hsp;rfl
   | some q=>rw [hsp] at hs;simp at hs
 ·cases h
theorem add_plain (b o k:Nat):(⟨b,o,none⟩:Addr).add k=⟨b,o+k,none⟩:=by
 unfold Addr.add
 split
 ·rename_i h;rw [h];rfl
 ·rfl
theorem open_fields (f:TypeId→Option (List AtTy)) (hf : ∀t sh,f t=some sh→P.cellsOf t=sh.length∧∀n cs x,DataW.trod enc P w 0 spare held n t cs=some x→∃l,VOk w (fun b=>b<w.heap.size) sh l cs) :
 ∀(fs:List (Nat×TypeId)) (k:Nat) (s:List AtTy) (cs:List Value),flatF f fs k=some s→cs.length=k+s.length→
  (∀(i:Nat) (o:Nat) (t:TypeId),fs[i]? =some (o,t)→∃n x,DataW.trod enc P w 0 spare held n t ((cs.drop o).take (P.cellsOf t))=some x)→∃l,VOk w (fun b=>b<w.heap.size) s l (cs.drop k)
 | [],k,s,cs,h,hl,_=>by
   simp only [flatF,Option.some.injEq] at h
   subst h
   exact⟨[],rfl,List.drop_of_length_le (by simp at hl;omega)⟩
 | (o,t)::r,k,s,cs,h,hl,hx=>by
   unfold flatF at h
   split at h
   ·rename_i hk
    obtain rfl:=Nat.eq_of_beq_eq_true hk
    split at h
    ·rename_i sh hsh
     split at h
     ·rename_i s' hs'
      cases h
      obtain⟨h1,h2⟩:=hf t sh hsh
      obtain⟨n,x,h3⟩:=hx 0 o t rfl
      obtain⟨l,h4⟩:=h2 n _ x h3
      obtain⟨l',h5⟩:=open_fields f hf r (o+sh.length) s' cs hs' (by rw [hl,List.length_append];omega) fun i o' t' h=>hx (i+1) o' t' (by simpa using h)
      refine⟨l++l',?_⟩
      have:=h4.app h5
      rw [h1,←List.drop_drop,List.take_append_drop] at this
      exact this
     ·cases h
    ·cases h
   ·cases h
theorem open_slice_row {a:AtTy} {r:List AtTy} {t e:TypeId} (hu:P.underlying t=some (.slice e)) (hc:P.cellsOf e=(a::r).length)
 (hf : ∀n cs x,DataW.trod enc P w 0 spare held n e cs=some x→∃l,VOk w (fun b=>b<w.heap.size) (a::r) l cs) (n:Nat) (cs:List Value) (x:DataW H×List MemPlace) (hx:DataW.trod enc P w 0 spare held n t cs=some x) :
 ∃l,VOk w (fun b=>b<w.heap.size) [.r (a::r)] l cs:=by
 rcases Deep.open_slice hu hx with ⟨rfl, -⟩ | ⟨ad,len,cap,m,k,D,Pl,rfl, -,hlc,hcm,hm, -,hcell⟩
 ·exact⟨_,[],_,[],[],rfl,rfl,by unfold SzA;exact⟨by simp,fun e he=>by cases he⟩,by unfold RA;exact⟨none,0,rfl,Nat.le_refl _,fun i x hx=>by simp at hx⟩,rfl,rfl⟩
 ·have hlm:len≤m:=by rw [hm];split<;>omega
  have key0 : ∀i,i<len→∃(cs':List Value) (y:El (a::r)),cs'.length=(a::r).length ∧(∀j,j<(a::r).length →w.cell? ((ad.add (i*(a::r).length)).add j)=cs'[j]?)∧SzE (a::r) y∧∀b o,(∀j v,cs'[j]? =some v→w.cell? ⟨b,o+j,none⟩=some v)→RE w (fun b=>b<w.heap.size) (a::r) b o y:=fun i hi=>by
   obtain⟨cs',g1,g2⟩:=hcell i (by omega)
   obtain⟨l,hl⟩:=hf _ _ _ g2
   obtain⟨y, -,h2,h3⟩:=hl.el
   rw [hc] at g1
   obtain⟨_,_,g3⟩:=World.cells?_some g1
   exact⟨cs',y,hl.len,g3,h2,h3⟩
  have hadp:0<len→ad=⟨ad.block,ad.off,none⟩∧ad.block<w.heap.size:=fun h0=>by
   obtain⟨cs',y,hlen,g3, -, -⟩:=key0 0 h0
   have g0:=g3 0 (by simp)
   obtain⟨u,hu⟩ : ∃u,cs'[0]? =some u:=⟨_,List.getElem?_eq_getElem (by rw [hlen];simp)⟩
   rw [hu,Nat.zero_mul] at g0
   have g0:w.cell? ad=some u:=g0
   exact⟨spot_none g0,World.block_lt_of_cell? w _ g0⟩
  have key : ∀i,i<len→∃y:El (a::r),SzE (a::r) y∧ad=⟨ad.block,ad.off,none⟩∧ad.block<w.heap.size∧RE w (fun b=>b<w.heap.size) (a::r) ad.block (ad.off+i*(a::r).length) y:=fun i hi=>by
   obtain⟨cs',y,hlen,g3,h2,h3⟩:=key0 i hi
   obtain⟨hp,hb⟩:=hadp (by omega)
   refine⟨y,h2,hp,hb,h3 _ _ fun j v hv=>?_⟩
   have hj:j<(a::r).length :=by rw [←hlen];exact (List.getElem?_eq_some_iff.1 hv).1
   have:=g3 j hj
   rw [hp,add_plain,add_plain] at this
   rw [←hv,←this]
  haveI:Inhabited (El (a::r)):=⟨dE _⟩
  obtain⟨V,hV⟩:=Deep.choose_lt (n:=len) (α:=El (a::r)) (p:=fun i y=>SzE (a::r) y∧ad=⟨ad.block,ad.off,none⟩∧ad.block<w.heap.size∧RE w (fun b=>b<w.heap.size) (a::r) ad.block (ad.off+i*(a::r).length) y) key
  have hlen:((List.range len).map V).length =len:=by simp
  have hcm':cap≤9223372036854775807:=hcm
  have hs1:((((List.range len).map V).length : Nat):Int)≤9223372036854775807:=by rw [hlen];omega
  have hs2 : ∀y∈(List.range len).map V,SzE (a::r) y:=fun y hy=>by
   obtain⟨i,hi,rfl⟩:=List.mem_map.1 hy
   exact (hV i (List.mem_range.1 hi)).1
  refine⟨_,(List.range len).map V,_,[],[],rfl,rfl,by unfold SzA;exact⟨hs1,hs2⟩,?_,rfl,rfl⟩
  ·unfold RA
   refine⟨some ad,cap,by rw [hlen],by rw [hlen];exact hlc,fun i y hy=>?_⟩
   have hi:i<len:=by have:=(List.getElem?_eq_some_iff.1 hy).1;rwa [hlen] at this
   rw [List.getElem?_map,List.getElem?_range hi] at hy
   simp only [Option.map_some,Option.some.injEq] at hy
   subst hy
   obtain⟨-,h2,h3,h4⟩:=hV i hi
   exact⟨_,_,congrArg some h2,h3,h4⟩
theorem open_flat (hT : ∀t ti,T t=some ti→TyOk P t ti) : ∀(m:Nat) (t:TypeId) (sh:List AtTy),flatT T m t=some sh→P.cellsOf t=sh.length∧
 ∀n cs x,DataW.trod enc P w 0 spare held n t cs=some x→∃l,VOk w (fun b=>b<w.heap.size) sh l cs
 | 0,_,_,h=>by simp [flatT] at h
 | m+1,t,sh,h=>by
   have ih:=open_flat hT m
   unfold flatT at h
   split at h
   ·rename_i ti hti
    obtain⟨d,hd, -,hu⟩:=(hT t ti hti).und
    have hn:=cells_n hT hti
    split at h
    ·rename_i s hs
     split at h
     ·rename_i hl
      cases h
      have hl:=Nat.eq_of_beq_eq_true hl
      refine⟨hn.trans hl,?_⟩
      generalize ti.d=td at hs hu
      cases td with
      | int k=>
        cases hs
        simp only at hu
        subst hu
        intro n cs x hx
        obtain⟨k,rfl, -,hw⟩:=DataW.trod_int hd hx
        simp only [Lit.wf,Bool.and_eq_true,decide_eq_true_eq] at hw
        exact⟨_,k,_,[],[],rfl,rfl,by unfold SzA;exact hw,by unfold RA;rfl,rfl,rfl⟩
      | bool=>
        cases hs
        simp only at hu
        subst hu
        intro n cs x hx
        obtain⟨k,rfl, -⟩:=DataW.trod_bool hd hx
        exact⟨_,k,_,[],[],rfl,rfl,by unfold SzA;trivial,by unfold RA;rfl,rfl,rfl⟩
      | str=>
        cases hs
        simp only at hu
        subst hu
        intro n cs x hx
        obtain⟨s,rfl, -,hw⟩:=DataW.trod_string hd hx
        refine⟨_,s.data.toList,_,[],[],rfl,rfl,?_,by unfold RA;rfl,rfl,rfl⟩
        unfold SzA
        have : s.size≤9223372036854775807:=hw
        have e:s.data.toList.length=s.size:=Array.length_toList
        omega
      | sl e=>
        simp only at hu
        subst hu
        simp only [flatD] at hs
        split at hs
        ·rename_i a r hr
         cases hs
         obtain⟨h1,h2⟩:=ih _ _ hr
         exact open_slice_row hd h1 h2
        ·cases hs
      | st fs=>
        simp only at hu
        obtain⟨F,rfl,hF, -⟩:=hu
        intro n cs x hx
        obtain⟨xs,n', -, -,hcl,hxl,hf⟩:=DataW.trod_struct hd hx
        have:=open_fields (flatT T m) ih fs 0 _ cs hs (by rw [hcl,hn,hl];omega) fun i o t h=>by
         rw [←hF,List.getElem?_map] at h
         cases hfi:F.toList[i]? with
         | none=>rw [hfi] at h;cases h
         | some f=>
           rw [hfi] at h
           simp only [Option.map_some,Option.some.injEq,Prod.mk.injEq] at h
           obtain⟨rfl,rfl⟩:=h
           have h3:=hf i f (by rw [←Array.getElem?_toList];exact hfi)
           have hi:i<xs.length:=by
            have:=(List.getElem?_eq_some_iff.1 hfi).1
            rw [hxl];simpa using this
           rw [List.getElem?_eq_getElem hi] at h3
           exact⟨n',_,h3⟩
        rw [List.drop_zero] at this
        exact this
      | _=>cases hs
     ·cases h
    ·cases h
   ·cases h
theorem open_arg (hT : ∀t ti,T t=some ti→TyOk P t ti) {t:TypeId} {sh:List AtTy} (m:Nat) (h:flatT T m t=some sh) {v:Value} {d:DataW H} {p:List MemPlace} (hx:DataW.Trod enc P w 0 spare held t v d p) : ∃l,VOk w (fun b=>b<w.heap.size) sh l v.cells.toList:=by
 obtain⟨n,hn⟩:=hx
 exact (open_flat hT m t sh h).2 _ _ _ hn
end
end Ax
namespace Ax
structure NRes (β:Type) where
 rd:AH→List PV→Option β
 eh:β→AH
 v:β→PV
def dropH (n:Nat):AH→AH
 | []=>[]
 | (k,o)::r=>if Nat.ble n k then (k,o)::dropH n r else dropH n r
def oldO (h hN:AH) (k:Nat):Ob:=match h.get k with
 | some (.cells l ty)=>.cells (nrmL (deeps hN 12 l)) ty
 | _=>.gone
def oldH (h hN:AH) (n:Nat):AH:=(List.range n).map fun k=>(k,oldO h hN k)
def isC:Option Ob→Bool
 | some (.cells _ _)=>true
 | _=>false
def okN (n:Nat) (h E:AH) (v:PV):Bool:=(List.range n).all (fun k=>isC (h.get k)&&(E.get k).isSome)&&(v.idIn []&&E.all fun q=>Nat.blt q.1 n&&q.2.idIn [])
def obN (h hN:AH):AH→Prop→Prop
 | [],r=>r
 | (k,o)::l,r=>sameO (oldO h hN k) o∧obN h hN l r
def retN {β:Type} (c:Cx) (rs:List ResultVar) (B:NRes β) (Q:β→Prop):AEx→AS→Prop
 | .exit _,_=>False
 | _,st=>match resL c st rs with
   | some l=>match B.rd (oldH st.h (dropH c.n0 st.h) c.n0) (nrmL (deeps (dropH c.n0 st.h) 12 l)) with
     | some x=>okN c.n0 st.h (B.eh x) (B.v x)=true∧obN st.h (dropH c.n0 st.h) (B.eh x) (sameV (deep (dropH c.n0 st.h) 12 (tupOf l)) (B.v x)∧Q x)
     | none=>False
   | none=>False
def nsp {α β:Type} (A:MArgs α) (pre:α→Prop) (B:α→NRes β) (Q:α→β→Prop):NSpec:=fun H l=>match A.rd H l with
 | some a=>some ⟨β,[pre a],Q a,(B a).v,(B a).eh⟩
 | none=>none
def assocN (t:Nat):List (Nat×NSpec)→Option NSpec
 | []=>none
 | (k,v)::r=>if Nat.beq t k then some v else assocN t r
inductive NTok (P:Program):List (FuncId×NSpec)→Prop
 | nil:NTok P []
 | cons {f:FuncId} {S:NSpec} {l:List (FuncId×NSpec)} : NOk P f S→NTok P l→NTok P ((f,S)::l)
theorem NTok.get {P:Program} : ∀{l:List (FuncId×NSpec)},NTok P l→∀f S,assocN f l=some S→NOk P f S
 | [],_,f,S,h=>by simp [assocN] at h
 | (k,v)::r,.cons h1 h2,f,S,h=>by
   unfold assocN at h
   split at h
   ·rename_i hk
    have hk:f=k:=by simpa using hk
    cases h;subst hk;exact h1
   ·exact h2.get f S h
theorem drop_get {n:Nat} : ∀{h:AH} {id:Nat} {o:Ob},(dropH n h).get id=some o→n≤id∧h.get id=some o
 | [],id,o,h=>by simp [dropH,AH.get] at h
 | (k,x)::r,id,o,h=>by
   unfold dropH at h
   split at h
   ·rename_i hk
    have hk:n≤k:=by simpa using hk
    unfold AH.get at h ⊢
    split at h
    ·rename_i he
     have he:k=id:=by simpa using he
     subst he;cases h
     exact⟨hk,by rw [if_pos (by simp)]⟩
    ·rename_i he
     rw [if_neg he]
     exact drop_get h
   ·rename_i hk
    obtain⟨h1,h2⟩:=drop_get h
    refine⟨h1,?_⟩
    unfold AH.get
    rw [if_neg (by
     intro he
     have he:k=id:=by simpa using he
     subst he
     exact hk (by simpa using h1))]
    exact h2
theorem obN_mem {h hN:AH} {r:Prop} : ∀{E:AH},obN h hN E r→r∧∀q∈E,sameO (oldO h hN q.1) q.2
 | [],hh=>⟨hh,fun q hq=>absurd hq (by simp)⟩
 | (k,o)::l,hh=>by
   unfold obN at hh
   obtain⟨h1,h2⟩:=hh
   obtain⟨h3,h4⟩:=obN_mem h2
   refine⟨h3,fun q hq=>?_⟩
   rcases List.mem_cons.1 hq with rfl | hq
   ·exact h1
   ·exact h4 q hq
section
variable {P:Program} {c:Cx} {f:FuncId} {fn:Func} {body:Code} {α β:Type}
theorem NOk.go {A:MArgs α} {pre:α→Prop} {B:α→NRes β} {Q:α→β→Prop} (hc:CxOk P c) (hm:P.follows .mixedOrders =true) (hf:P.funcs[f]? =some fn) (hb:fn.body=some body) (hn:(fn.name=="runtime.NumGoroutine")=false) (hck:codeOk body=true)
 (h : ∀a,pre a→Nat.beq c.n0 (A.eh a).length =true∧awp c body (retN c fn.results.toList (B a) (Q a)) ⟨A.ea a++List.replicate (fn.ntmps-(A.ea a).length) .dead,A.eh a,(A.eh a).length⟩):NOk P f (nsp A pre B Q):=by
 refine⟨⟨fn,hf,hn,by rw [hb];rfl⟩,fun H args out hs hp w e vals hz hob hon hlv hbd hdis hl=>?_⟩
 unfold nsp at hs
 split at hs
 ·rename_i a ha
  cases hs
  obtain⟨rfl,rfl⟩:=A.ok _ _ _ ha
  obtain⟨h1,h2⟩:=h a (hp _ (by simp))
  have hn0:=Nat.eq_of_beq_eq_true h1
  refine run_awpG hc hm hf hb hck hn0 hz hob hon hlv hbd hdis hl (fun _ _ h=>h) (fun ex st e1 a' w' hq hs'=>?_) h2
  have hq:retN c fn.results.toList (B a) (Q a) .ret st:=by cases ex<;>first | exact hq | exact hq.elim
  generalize (A.eh a).length =n0 at hn0 hon hlv hs'
  unfold retN at hq
  simp only [hn0] at hq
  split at hq
  ·rename_i l hlr
   split at hq
   ·rename_i x hx
    obtain⟨hck1,hq⟩:=hq
    obtain⟨⟨hsame,hQ⟩,hobs⟩:=obN_mem hq
    obtain⟨v,hv1,hv2⟩:=results_run hc hs' hlr
    simp only [okN,Bool.and_eq_true,List.all_eq_true,List.mem_range,Nat.blt_eq] at hck1
    obtain⟨hfull,hvin,hEin⟩:=hck1
    have hcell : ∀k,k<n0→∃m ty,st.h.get k=some (.cells m ty):=fun k hk=>by
     have:=(hfull k hk).1
     unfold isC at this
     split at this
     ·rename_i m ty hm';exact⟨m,ty,hm'⟩
     ·cases this
    have hroot : ∀k,e.on k→e1.on k∧e1.adr k=e.adr k∧e1.cap k=e.cap k∧e1.len k=e.len k:=fun k hk=>hs'.root k ((hon k).1 hk) hk
    have hlv1 : ∀k,k<n0→e1.lv k:=fun k hk=>by
     obtain⟨m,ty,hm'⟩:=hcell k hk
     exact (hs'.ob k _ hm').2.2 rfl
    have hsee:Sees w' e1 (dropH n0 st.h):=⟨fun id o ho=>hs'.ob id o (drop_get ho).2,hs'.sees.fz,hs'.sees.dis⟩
    have hF:Frz w' e1 (dropH n0 st.h) { e1 with fz:=fun b=>e1.fz b∨w.heap.size≤b∧b<w'.heap.size }:=by
     refine⟨⟨fun _ h=>h,fun _ _=>rfl,fun _ _=>rfl,fun _ _=>rfl,fun b hb=>.inl hb⟩,fun id o b ho hg hb=>.inr ?_⟩
     obtain⟨g1,g2⟩:=drop_get ho
     have glv:=(hs'.ob id o g2).2.2 hg
     obtain⟨g3,g4⟩:=hs'.bd id b glv hb
     refine⟨g3.resolve_right fun ⟨k,hk,y,hy,hyb⟩=>?_,g4⟩
     have hkn:=(hon k).1 hk
     have:=hs'.dis id k b glv (hlv1 k hkn) hb ⟨y,by rw [(hroot k hk).2.1];exact hy,hyb⟩
     omega
    have hR:=same_R _ _ _ hsame (deep_R hsee hF 12 _ v hv2)
    have hrn:Rn id [] { e1 with fz:=fun b=>e1.fz b∨w.heap.size≤b∧b<w'.heap.size } ⟨e1.adr,e1.cap,e1.len,fun b=>e1.fz b∨w.heap.size≤b∧b<w'.heap.size,fun k=>k<n0,fun k=>k<n0⟩:=⟨fun k hk=>absurd hk (by simp),fun _=>rfl,fun _=>rfl,fun _=>rfl,rfl⟩
    refine⟨hs'.defers,v,hv1,x,hQ,v,⟨e1.adr,e1.cap,e1.len,fun b=>e1.fz b∨w.heap.size≤b∧b<w'.heap.size,fun k=>k<n0,fun k=>k<n0⟩,rfl,?_,?_,⟨fun b hb=>?_,fun k b hk hk0=>absurd ((hlv k).2 hk) hk0⟩,?_,fun k hk=>.inl ((hon k).2 hk),fun k hk=>.inl ((hlv k).2 hk),fun k hk=>.inl ((hlv k).1 hk),fun k k' b hk hk0=>absurd ((hlv k).2 hk) hk0,?_⟩
    ·exact R_rn hrn _ v hvin (by rw [rn_id];exact hR)
    ·exact⟨fun k hk=>(hon k).1 hk,fun k hk=>(hroot k hk).2.1,fun k hk=>(hroot k hk).2.2.1,fun k hk=>(hroot k hk).2.2.2,fun b hb=>.inl (hs'.ez.sub b hb)⟩
    ·rcases hb with hb | hb
     ·exact hs'.ez.sup b hb
     ·exact .inr hb
    ·intro k o hk
     have hmem:=get_mem hk
     obtain⟨h4,h5⟩:=hEin _ hmem
     obtain⟨m,ty,hm'⟩:=hcell k h4
     have h6:=hobs _ hmem
     simp only [oldO,hm'] at h6
     obtain⟨b,vs,q1,q2,q3,q4⟩:=(hs'.ob k _ hm').1
     refine⟨?_,h4,fun _=>h4⟩
     cases o with
     | cells m2 ty2=>
       unfold sameO at h6
       obtain⟨h6,rfl⟩:=h6
       have h7:=same_Rs _ _ _ h6 (nrm_Rs _ _ (deeps_Rs hsee hF 12 _ _ q4))
       refine⟨b,vs,q1,?_,q3,Rs_rn hrn _ _ h5 (by rw [rnL_id];exact h7)⟩
       rintro (hf1 | hf1)
       ·exact q2 hf1
       ·have hkon:=(hon k).2 h4
        have:=(hbd k b hkon ⟨_,by rw [←(hroot k hkon).2.1];exact q1,rfl⟩).1
        omega
     | _=>unfold sameO at h6;exact absurd h6 (by simp)
    ·refine⟨hs'.low.os,hs'.low.tape,hs'.low.output,hs'.low.size,fun b hb hnM=>hs'.low.block b hb fun ⟨k,hk,hkb⟩=>hnM ⟨k,(hlv k).2 ((hon k).1 hk),(hfull k ((hon k).1 hk)).2,hkb⟩⟩
   ·exact hq.elim
  ·exact hq.elim
 ·cases hs
theorem FOk.no {A:Args α} {pre:α→Prop} {v:α→PV} {eff:α→AH} (hf:P.funcs[f]? =some fn) (hb:fn.body.isNone=false) (hn:(fn.name=="runtime.NumGoroutine")=false) (h : ∀a,¬pre a):FOk P f (fsp A pre v eff):=by
 refine⟨⟨fn,hf,hn,hb⟩,fun args out hs hp=>?_⟩
 unfold fsp at hs
 split at hs
 ·rename_i a ha
  cases hs
  exact absurd (hp (pre a) (by simp)) (h a)
 ·cases hs
def mN {α:Type} (A:Args α):MArgs α:=⟨fun H l=>match H with | []=>A.rd l | _=>none,fun _=>[],A.enc,fun H l a h=>by split at h<;>first | exact⟨rfl,A.ok _ _ h⟩ | cases h⟩
end
end Ax
namespace Ax
def tyT (t:TypeId):Option TI:=if Nat.ble 344 t then none else if Nat.ble t 127 then (if Nat.ble t 24 then (if Nat.ble t 11 then (if Nat.ble t 6 then (if Nat.ble t 3 then (if Nat.ble t 2 then (if Nat.beq t 2 then some ⟨.int .i64,1,[.i .i64 0],[.i .i64]⟩ else none) else (if Nat.beq t 3 then some ⟨.int .i64,1,[.i .i64 0],[.i .i64]⟩ else none)) else (if Nat.ble t 4 then (if Nat.beq t 4 then some ⟨.bool,1,[.bf],[.b]⟩ else none) else (if Nat.ble t 5 then (if Nat.beq t 5 then some ⟨.int .u8,1,[.i .u8 0],[.i .u8]⟩ else none) else (if Nat.beq t 6 then some ⟨.int .u8,1,[.i .u8 0],[.i .u8]⟩ else none)))) else (if Nat.ble t 8 then (if Nat.ble t 7 then (if Nat.beq t 7 then some ⟨.st [(0,2),(1,3),(2,4),(3,6)],4,[.i .i64 0,.i .i64 0,.bf,.i .u8 0],[]⟩ else none) else (if Nat.beq t 8 then some ⟨.st [(0,2),(1,3),(2,4),(3,6)],4,[.i .i64 0,.i .i64 0,.bf,.i .u8 0],[]⟩ else none)) else (if Nat.ble t 9 then (if Nat.beq t 9 then some ⟨.str,1,[.s []],[.s]⟩ else none) else (if Nat.ble t 10 then (if Nat.beq t 10 then some ⟨.str,1,[.s []],[.s]⟩ else none) else (if Nat.beq t 11 then some ⟨.str,1,[.s []],[.s]⟩ else none))))) else (if Nat.ble t 16 then (if Nat.ble t 13 then (if Nat.ble t 12 then (if Nat.beq t 12 then some ⟨.int .u64,1,[.i .u64 0],[.i .u64]⟩ else none) else (if Nat.beq t 13 then some ⟨.st [(0,9),(1,12)],2,[.s [],.i .u64 0],[]⟩ else none)) else (if Nat.ble t 14 then (if Nat.beq t 14 then some ⟨.st [(0,9),(1,12)],2,[.s [],.i .u64 0],[]⟩ else none) else (if Nat.ble t 15 then (if Nat.beq t 15 then some ⟨.ptr 333,1,[.nilp],[]⟩ else none) else (if Nat.beq t 16 then some ⟨.ptr 336,1,[.nilp],[]⟩ else none)))) else (if Nat.ble t 19 then (if Nat.ble t 17 then (if Nat.beq t 17 then some ⟨.ptr 343,1,[.nilp],[]⟩ else none) else (if Nat.ble t 18 then (if Nat.beq t 18 then some ⟨.st [(0,17)],1,[.nilp],[]⟩ else none) else (if Nat.beq t 19 then some ⟨.st [(0,17)],1,[.nilp],[]⟩ else none))) else (if Nat.ble t 21 then (if Nat.beq t 21 then some ⟨.int .i32,1,[.i .i32 0],[.i .i32]⟩ else none) else (if Nat.ble t 22 then (if Nat.beq t 22 then some ⟨.sl 5,1,[.esl],[.i .u8]⟩ else none) else (if Nat.beq t 24 then some ⟨.sl 2,1,[.esl],[.i .i64]⟩ else none)))))) else (if Nat.ble t 37 then (if Nat.ble t 29 then (if Nat.ble t 26 then (if Nat.ble t 25 then (if Nat.beq t 25 then some ⟨.st [(0,9),(1,24),(2,24),(3,2)],4,[.s [],.esl,.esl,.i .i64 0],[]⟩ else none) else (if Nat.beq t 26 then some ⟨.st [(0,9),(1,24),(2,24),(3,2)],4,[.s [],.esl,.esl,.i .i64 0],[]⟩ else none)) else (if Nat.ble t 27 then (if Nat.beq t 27 then some ⟨.sl 9,1,[.esl],[.s]⟩ else none) else (if Nat.ble t 28 then (if Nat.beq t 28 then some ⟨.st [(0,27)],1,[.esl],[]⟩ else none) else (if Nat.beq t 29 then some ⟨.st [(0,27)],1,[.esl],[]⟩ else none)))) else (if Nat.ble t 32 then (if Nat.ble t 30 then (if Nat.beq t 30 then some ⟨.st [(0,2),(1,9),(2,9)],3,[.i .i64 0,.s [],.s []],[]⟩ else none) else (if Nat.ble t 31 then (if Nat.beq t 31 then some ⟨.st [(0,2),(1,9),(2,9)],3,[.i .i64 0,.s [],.s []],[]⟩ else none) else (if Nat.beq t 32 then some ⟨.st [(0,26),(4,29),(5,31),(8,2),(9,2)],10,[.s [],.esl,.esl,.i .i64 0,.esl,.i .i64 0,.s [],.s [],.i .i64 0,.i .i64 0],[]⟩ else none))) else (if Nat.ble t 33 then (if Nat.beq t 33 then some ⟨.st [(0,26),(4,29),(5,31),(8,2),(9,2)],10,[.s [],.esl,.esl,.i .i64 0,.esl,.i .i64 0,.s [],.s [],.i .i64 0,.i .i64 0],[]⟩ else none) else (if Nat.ble t 36 then (if Nat.beq t 36 then some ⟨.st [(0,2),(1,2),(2,4),(3,9)],4,[.i .i64 0,.i .i64 0,.bf,.s []],[]⟩ else none) else (if Nat.beq t 37 then some ⟨.st [(0,2),(1,2),(2,4),(3,9)],4,[.i .i64 0,.i .i64 0,.bf,.s []],[]⟩ else none))))) else (if Nat.ble t 75 then (if Nat.ble t 39 then (if Nat.ble t 38 then (if Nat.beq t 38 then some ⟨.st [(0,2),(1,2),(2,37),(6,9),(7,9),(8,2),(9,2)],10,[.i .i64 0,.i .i64 0,.i .i64 0,.i .i64 0,.bf,.s [],.s [],.s [],.i .i64 0,.i .i64 0],[]⟩ else none) else (if Nat.beq t 39 then some ⟨.st [(0,2),(1,2),(2,37),(6,9),(7,9),(8,2),(9,2)],10,[.i .i64 0,.i .i64 0,.i .i64 0,.i .i64 0,.bf,.s [],.s [],.s [],.i .i64 0,.i .i64 0],[]⟩ else none)) else (if Nat.ble t 40 then (if Nat.beq t 40 then some ⟨.st [(0,33),(10,31),(13,9),(14,27),(15,24),(16,24),(17,2),(18,2),(19,39),(29,4)],30,[.s [],.esl,.esl,.i .i64 0,.esl,.i .i64 0,.s [],.s [],.i .i64 0,.i .i64 0,.i .i64 0,.s [],.s [],.s [],.esl,.esl,.esl,.i .i64 0,.i .i64 0,.i .i64 0,.i .i64 0,.i .i64 0,.i .i64 0,.bf,.s [],.s [],.s [],.i .i64 0,.i .i64 0,.bf],[]⟩ else none) else (if Nat.ble t 41 then (if Nat.beq t 41 then some ⟨.st [(0,33),(10,31),(13,9),(14,27),(15,24),(16,24),(17,2),(18,2),(19,39),(29,4)],30,[.s [],.esl,.esl,.i .i64 0,.esl,.i .i64 0,.s [],.s [],.i .i64 0,.i .i64 0,.i .i64 0,.s [],.s [],.s [],.esl,.esl,.esl,.i .i64 0,.i .i64 0,.i .i64 0,.i .i64 0,.i .i64 0,.i .i64 0,.bf,.s [],.s [],.s [],.i .i64 0,.i .i64 0,.bf],[]⟩ else none) else (if Nat.beq t 75 then some ⟨.st [(0,27),(1,27),(2,4),(3,2)],4,[.esl,.esl,.bf,.i .i64 0],[]⟩ else none)))) else (if Nat.ble t 91 then (if Nat.ble t 76 then (if Nat.beq t 76 then some ⟨.st [(0,27),(1,27),(2,4),(3,2)],4,[.esl,.esl,.bf,.i .i64 0],[]⟩ else none) else (if Nat.ble t 87 then (if Nat.beq t 87 then some ⟨.ptr 159,1,[.nilp],[]⟩ else none) else (if Nat.beq t 91 then some ⟨.ptr 33,1,[.nilp],[]⟩ else none))) else (if Nat.ble t 94 then (if Nat.beq t 94 then some ⟨.ptr 26,1,[.nilp],[]⟩ else none) else (if Nat.ble t 111 then (if Nat.beq t 111 then some ⟨.ptr 41,1,[.nilp],[]⟩ else none) else (if Nat.beq t 127 then some ⟨.ptr 31,1,[.nilp],[]⟩ else none))))))) else (if Nat.ble t 290 then (if Nat.ble t 201 then (if Nat.ble t 171 then (if Nat.ble t 157 then (if Nat.ble t 139 then (if Nat.beq t 139 then some ⟨.ptr 29,1,[.nilp],[]⟩ else none) else (if Nat.beq t 157 then some ⟨.int .u64,1,[.i .u64 0],[.i .u64]⟩ else none)) else (if Nat.ble t 158 then (if Nat.beq t 158 then some ⟨.st [(0,22),(1,3),(2,157)],3,[.esl,.i .i64 0,.i .u64 0],[]⟩ else none) else (if Nat.ble t 159 then (if Nat.beq t 159 then some ⟨.st [(0,22),(1,3),(2,157)],3,[.esl,.i .i64 0,.i .u64 0],[]⟩ else none) else (if Nat.beq t 171 then some ⟨.arr 27 3,27,[.i .i64 0,.i .i64 0,.i .i64 0,.i .i64 0,.i .i64 0,.i .i64 0,.i .i64 0,.i .i64 0,.i .i64 0,.i .i64 0,.i .i64 0,.i .i64 0,.i .i64 0,.i .i64 0,.i .i64 0,.i .i64 0,.i .i64 0,.i .i64 0,.i .i64 0,.i .i64 0,.i .i64 0,.i .i64 0,.i .i64 0,.i .i64 0,.i .i64 0,.i .i64 0,.i .i64 0],[]⟩ else none)))) else (if Nat.ble t 175 then (if Nat.ble t 172 then (if Nat.beq t 172 then some ⟨.arr 27 3,27,[.i .i64 0,.i .i64 0,.i .i64 0,.i .i64 0,.i .i64 0,.i .i64 0,.i .i64 0,.i .i64 0,.i .i64 0,.i .i64 0,.i .i64 0,.i .i64 0,.i .i64 0,.i .i64 0,.i .i64 0,.i .i64 0,.i .i64 0,.i .i64 0,.i .i64 0,.i .i64 0,.i .i64 0,.i .i64 0,.i .i64 0,.i .i64 0,.i .i64 0,.i .i64 0,.i .i64 0],[]⟩ else none) else (if Nat.ble t 174 then (if Nat.beq t 174 then some ⟨.ptr 176,1,[.nilp],[]⟩ else none) else (if Nat.beq t 175 then some ⟨.st [(0,174),(1,22)],2,[.nilp,.esl],[]⟩ else none))) else (if Nat.ble t 176 then (if Nat.beq t 176 then some ⟨.st [(0,174),(1,22)],2,[.nilp,.esl],[]⟩ else none) else (if Nat.ble t 200 then (if Nat.beq t 200 then some ⟨.sl 211,1,[.esl],[.i .i64,.i .i64]⟩ else none) else (if Nat.beq t 201 then some ⟨.sl 3,1,[.esl],[.i .i64]⟩ else none))))) else (if Nat.ble t 240 then (if Nat.ble t 211 then (if Nat.ble t 210 then (if Nat.beq t 210 then some ⟨.st [(0,2),(1,2)],2,[.i .i64 0,.i .i64 0],[]⟩ else none) else (if Nat.beq t 211 then some ⟨.st [(0,2),(1,2)],2,[.i .i64 0,.i .i64 0],[]⟩ else none)) else (if Nat.ble t 218 then (if Nat.beq t 218 then some ⟨.sl 37,1,[.esl],[.i .i64,.i .i64,.b,.s]⟩ else none) else (if Nat.ble t 232 then (if Nat.beq t 232 then some ⟨.int .u64,1,[.i .u64 0],[.i .u64]⟩ else none) else (if Nat.beq t 240 then some ⟨.ptr 5,1,[.nilp],[]⟩ else none)))) else (if Nat.ble t 273 then (if Nat.ble t 243 then (if Nat.beq t 243 then some ⟨.ptr 39,1,[.nilp],[]⟩ else none) else (if Nat.ble t 251 then (if Nat.beq t 251 then some ⟨.sl 200,1,[.esl],[.r [.i .i64,.i .i64]]⟩ else none) else (if Nat.beq t 273 then some ⟨.int .u32,1,[.i .u32 0],[.i .u32]⟩ else none))) else (if Nat.ble t 288 then (if Nat.beq t 288 then some ⟨.st [],0,[],[]⟩ else none) else (if Nat.ble t 289 then (if Nat.beq t 289 then some ⟨.st [],0,[],[]⟩ else none) else (if Nat.beq t 290 then some ⟨.st [],0,[],[]⟩ else none)))))) else (if Nat.ble t 329 then (if Nat.ble t 313 then (if Nat.ble t 306 then (if Nat.ble t 293 then (if Nat.beq t 293 then some ⟨.arr 24 5,24,[.i .u8 0,.i .u8 0,.i .u8 0,.i .u8 0,.i .u8 0,.i .u8 0,.i .u8 0,.i .u8 0,.i .u8 0,.i .u8 0,.i .u8 0,.i .u8 0,.i .u8 0,.i .u8 0,.i .u8 0,.i .u8 0,.i .u8 0,.i .u8 0,.i .u8 0,.i .u8 0,.i .u8 0,.i .u8 0,.i .u8 0,.i .u8 0],[]⟩ else none) else (if Nat.beq t 306 then some ⟨.arr 20 157,20,[.i .u64 0,.i .u64 0,.i .u64 0,.i .u64 0,.i .u64 0,.i .u64 0,.i .u64 0,.i .u64 0,.i .u64 0,.i .u64 0,.i .u64 0,.i .u64 0,.i .u64 0,.i .u64 0,.i .u64 0,.i .u64 0,.i .u64 0,.i .u64 0,.i .u64 0,.i .u64 0],[]⟩ else none)) else (if Nat.ble t 311 then (if Nat.beq t 311 then some ⟨.st [(0,5),(1,5)],2,[.i .u8 0,.i .u8 0],[]⟩ else none) else (if Nat.ble t 312 then (if Nat.beq t 312 then some ⟨.st [(0,5),(1,5)],2,[.i .u8 0,.i .u8 0],[]⟩ else none) else (if Nat.beq t 313 then some ⟨.arr 16 312,32,[.i .u8 0,.i .u8 0,.i .u8 0,.i .u8 0,.i .u8 0,.i .u8 0,.i .u8 0,.i .u8 0,.i .u8 0,.i .u8 0,.i .u8 0,.i .u8 0,.i .u8 0,.i .u8 0,.i .u8 0,.i .u8 0,.i .u8 0,.i .u8 0,.i .u8 0,.i .u8 0,.i .u8 0,.i .u8 0,.i .u8 0,.i .u8 0,.i .u8 0,.i .u8 0,.i .u8 0,.i .u8 0,.i .u8 0,.i .u8 0,.i .u8 0,.i .u8 0],[]⟩ else none)))) else (if Nat.ble t 324 then (if Nat.ble t 322 then (if Nat.beq t 322 then some ⟨.sl 331,1,[.esl],[]⟩ else none) else (if Nat.ble t 323 then (if Nat.beq t 323 then some ⟨.arr 32 5,32,[.i .u8 0,.i .u8 0,.i .u8 0,.i .u8 0,.i .u8 0,.i .u8 0,.i .u8 0,.i .u8 0,.i .u8 0,.i .u8 0,.i .u8 0,.i .u8 0,.i .u8 0,.i .u8 0,.i .u8 0,.i .u8 0,.i .u8 0,.i .u8 0,.i .u8 0,.i .u8 0,.i .u8 0,.i .u8 0,.i .u8 0,.i .u8 0,.i .u8 0,.i .u8 0,.i .u8 0,.i .u8 0,.i .u8 0,.i .u8 0,.i .u8 0,.i .u8 0],[]⟩ else none) else (if Nat.beq t 324 then some ⟨.arr 64 5,64,[.i .u8 0,.i .u8 0,.i .u8 0,.i .u8 0,.i .u8 0,.i .u8 0,.i .u8 0,.i .u8 0,.i .u8 0,.i .u8 0,.i .u8 0,.i .u8 0,.i .u8 0,.i .u8 0,.i .u8 0,.i .u8 0,.i .u8 0,.i .u8 0,.i .u8 0,.i .u8 0,.i .u8 0,.i .u8 0,.i .u8 0,.i .u8 0,.i .u8 0,.i .u8 0,.i .u8 0,.i .u8 0,.i .u8 0,.i .u8 0,.i .u8 0,.i .u8 0,.i .u8 0,.i .u8 0,.i .u8 0,.i .u8 0,.i .u8 0,.i .u8 0,.i .u8 0,.i .u8 0,.i .u8 0,.i .u8 0,.i .u8 0,.i .u8 0,.i .u8 0,.i .u8 0,.i .u8 0,.i .u8 0,.i .u8 0,.i .u8 0,.i .u8 0,.i .u8 0,.i .u8 0,.i .u8 0,.i .u8 0,.i .u8 0,.i .u8 0,.i .u8 0,.i .u8 0,.i .u8 0,.i .u8 0,.i .u8 0,.i .u8 0,.i .u8 0],[]⟩ else none))) else (if Nat.ble t 325 then (if Nat.beq t 325 then some ⟨.ptr 331,1,[.nilp],[]⟩ else none) else (if Nat.ble t 328 then (if Nat.beq t 328 then some ⟨.arr 3 21,3,[.i .i32 0,.i .i32 0,.i .i32 0],[]⟩ else none) else (if Nat.beq t 329 then some ⟨.arr 3 21,3,[.i .i32 0,.i .i32 0,.i .i32 0],[]⟩ else none))))) else (if Nat.ble t 334 then (if Nat.ble t 331 then (if Nat.ble t 330 then (if Nat.beq t 330 then some ⟨.st [(0,273),(1,273),(2,329)],5,[.i .u32 0,.i .u32 0,.i .i32 0,.i .i32 0,.i .i32 0],[]⟩ else none) else (if Nat.beq t 331 then some ⟨.st [(0,273),(1,273),(2,329)],5,[.i .u32 0,.i .u32 0,.i .i32 0,.i .i32 0,.i .i32 0],[]⟩ else none)) else (if Nat.ble t 332 then (if Nat.beq t 332 then some ⟨.st [(0,17),(1,17),(2,17),(3,9)],4,[.nilp,.nilp,.nilp,.s []],[]⟩ else none) else (if Nat.ble t 333 then (if Nat.beq t 333 then some ⟨.st [(0,17),(1,17),(2,17),(3,9)],4,[.nilp,.nilp,.nilp,.s []],[]⟩ else none) else (if Nat.beq t 334 then some ⟨.arr 0 16,0,[],[]⟩ else none)))) else (if Nat.ble t 337 then (if Nat.ble t 335 then (if Nat.beq t 335 then some ⟨.st [(0,334)],0,[],[]⟩ else none) else (if Nat.ble t 336 then (if Nat.beq t 336 then some ⟨.st [(0,334)],0,[],[]⟩ else none) else (if Nat.beq t 337 then some ⟨.int .u8,1,[.i .u8 0],[.i .u8]⟩ else none))) else (if Nat.ble t 338 then (if Nat.beq t 338 then some ⟨.int .u8,1,[.i .u8 0],[.i .u8]⟩ else none) else (if Nat.ble t 340 then (if Nat.beq t 340 then some ⟨.int .i32,1,[.i .i32 0],[.i .i32]⟩ else none) else (if Nat.beq t 341 then some ⟨.int .i32,1,[.i .i32 0],[.i .i32]⟩ else none)))))))
def tyC (t:TypeId):Bool:=memN t [31,37,38,39,211]
theorem cm_ok : ∀t,tyC t=true→EqOk Tryz.prog t:=eq_all [31,37,38,39,211] (by kernel_rfl)
theorem ty_ok : ∀t ti,tyT t=some ti→TyOk Tryz.prog t ti:=ty_all 344 (fun t h=>if_pos h) (by kernel_rfl)
end Ax
end Go.Proofs.YtjjonmhpgkahoaaGreatDoor
