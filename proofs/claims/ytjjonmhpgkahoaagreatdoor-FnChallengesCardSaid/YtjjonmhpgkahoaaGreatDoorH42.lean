/-
  What a law is handed, as plain values: by the table of types.
  Conditions: the table is as the program has it; none.
-/
import Derived.Test.YtjjonmhpgkahoaaGreatDoorH10
import Derived.ProofKit
import Derived.Lay
import Derived.Carry
import Derived.ChangeArms
import Derived.Deep.Slices
import Derived.Lib.SmallJoins
import Derived.WideShapes
import Derived.Test.YtjjonmhpgkahoaaGreatDoorRows
import Derived.Test.YtjjonmhpgkahoaaGreatDoorH19
import Derived.Test.YtjjonmhpgkahoaaGreatDoorH04
import Derived.LaidMore
import Derived.SizedLaws
import Derived.Shelf.Vars
import Derived.ShapedOpen
import Derived.ChangeSlices
import Derived.Test.YtjjonmhpgkahoaaGreatDoorH37
import Derived.Test.YtjjonmhpgkahoaaGreatDoorH38
import Derived.Test.YtjjonmhpgkahoaaGreatDoorH39
import Derived.Test.YtjjonmhpgkahoaaGreatDoorH40
import Derived.Test.YtjjonmhpgkahoaaGreatDoorH41
import Derived.Test.YtjjonmhpgkahoaaGreatDoorH32
import Derived.Test.YtjjonmhpgkahoaaGreatDoorH35
import Derived.Test.YtjjonmhpgkahoaaGreatDoorH36
import Derived.Lib.Join
set_option linter.unusedSimpArgs false
set_option linter.unusedVariables false
namespace Go.Proofs.YtjjonmhpgkahoaaGreatDoor
namespace Ax
open Go.RowKit Go.WideShapes
set_option maxRecDepth 100000
mutual
def SzA:(t:aw)→t.Ty→Prop
 | .i k,x=>k.min≤x∧x≤k.max
 | .b,_=>True
 | .s,x=>(x.length:Int)≤9223372036854775807
 | .r sh,x=>(x.length:Int)≤9223372036854775807∧∀e∈x,SzE sh e
def SzE:(sh:List aw)→El sh→Prop
 | [],_=>True
 | t::ts,e=>IJ (SzA t) ts e
def IJ {x:Type} (P:x→Prop):(ts:List aw)→EL2 x ts→Prop
 | [],e=>P e
 | t::ts,e=>P e.1∧IJ (SzA t) ts e.2
end
def Dr (f:TypeId→Option (List aw)):List (Nat×TypeId)→Nat→Option (List aw)
 | [],_=>some []
 | (o,t)::r,k=>if Nat.beq o k then match f t with
   | some sh=>match Dr f r (k+sh.length) with
     | some s=>some (sh++s)
     | none=>none
   | none=>none else none
def OE (f:TypeId→Option (List aw)):TD→Option (List aw)
 | .int k=>some [.i k]
 | .bool =>some [.b]
 | .str =>some [.s]
 | .sl e=>match f e with
   | some (a::sh)=>some [.r (a::sh)]
   | _=>none
 | .st fs=>Dr f fs 0
 | _=>none
def yz (T:TypeId→Option TI):Nat→TypeId→Option (List aw)
 | 0,_=>none
 | n+1,t=>match T t with
   | some ti=>match OE (yz T n) ti.d with
     | some s=>if Nat.beq ti.n s.length then some s else none
     | none=>none
   | none=>none
def VOk (w:World) (fz:Nat→Prop):List aw→List PV→List Value→Prop
 | [],l,cs=>l=[]∧cs=[]
 | a::r,l,cs=>∃x u l' cs',l=a.pv x::l'∧cs=u::cs'∧SzA a x∧RA w fz a x u∧VOk w fz r l' cs'
section
variable {w:World} {fz:Nat→Prop}
theorem VOk.len : ∀{sh:List aw} {l:List PV} {cs:List Value},VOk w fz sh l cs→cs.length=sh.length
 | [],_,_,h=>by rw [h.2];rfl
 | _::r,_,_,h=>by
   obtain⟨x,u,l',cs',rfl,rfl, -, -,h⟩:=h
   simp [h.len]
theorem VOk.app : ∀{sh:List aw} {l:List PV} {cs:List Value} {sh':List aw} {l':List PV} {cs':List Value},VOk w fz sh l cs→VOk w fz sh' l' cs'→VOk w fz (sh++sh') (l++l') (cs++cs')
 | [],_,_,_,_,_,h,h'=>by rw [h.1,h.2];exact h'
 | a::r,_,_,_,_,_,h,h'=>by
   obtain⟨x,u,l1,cs1,rfl,rfl,h1,h2,h⟩:=h
   exact⟨x,u,l1++_,cs1++_,rfl,rfl,h1,h2,h.app h'⟩
theorem Ry {e:Env} : ∀(a:aw) (x:a.Ty) (u:Value),RA w e.fz a x u→R w e (a.pv x) u
 | .i _,_,_,h=>by unfold RA at h;unfold aw.pv R;exact h
 | .b,_,_,h=>by unfold RA at h;unfold aw.pv R;exact h
 | .s,_,_,h=>by unfold RA at h;unfold aw.pv R;exact h
 | .r _,_,_,h=>by unfold RA at h;unfold aw.pv R;exact h
theorem VOk.Rs {e:Env} : ∀{sh:List aw} {l:List PV} {cs:List Value},VOk w e.fz sh l cs→Ax.Rs w e l cs
 | [],_,_,h=>by rw [h.1,h.2];unfold Ax.Rs;rfl
 | a::r,_,_,h=>by
   obtain⟨x,u,l',cs',rfl,rfl, -,h2,h⟩:=h
   unfold Ax.Rs
   exact⟨u,cs',rfl,Ry a x u h2,h.Rs⟩
theorem VOk.els {α:Type} {f:α→PV} {P:α→Value→Prop} {Q:α→Prop} : ∀{ts:List aw} {l:List PV} {cs:List Value} (x:α) (u:Value),VOk w fz ts l cs→P x u→Q x→
 ∃e:EL2 α ts,f x::l=mk2 f ts e∧IJ Q ts e∧∀b o,(∀j v,(u::cs)[j]? =some v→w.cell? ⟨b,o+j,none⟩=some v)→REs w fz P ts b o e
 | [],_,_,x,u,h,hp,hq=>by
   rw [h.1,h.2]
   exact⟨x,rfl,by unfold IJ;exact hq,fun b o hc=>by unfold REs RE2;exact⟨u,hc 0 u rfl,hp⟩⟩
 | t::ts,_,_,x,u,h,hp,hq=>by
   obtain⟨y,v,l',cs',rfl,rfl,h1,h2,h⟩:=h
   obtain⟨e,g1,g2,g3⟩:=VOk.els (f:=t.pv) (P:=RA w fz t) (Q:=SzA t) y v h h2 h1
   refine⟨(x,e),by rw [g1];rfl,by unfold IJ;exact⟨hq,g2⟩,fun b o hc=>?_⟩
   unfold REs RE2
   exact⟨⟨u,hc 0 u rfl,hp⟩,g3 b (o+1) fun j v' hv=>by rw [show o+1+j=o+(j+1) from by omega];exact hc (j+1) v' (by simpa using hv)⟩
theorem VOk.el {a:aw} {sh:List aw} {l:List PV} {cs:List Value} (h:VOk w fz (a::sh) l cs) :
 ∃e:El (a::sh),l=mk (a::sh) e∧SzE (a::sh) e∧∀b o,(∀j v,cs[j]? =some v→w.cell? ⟨b,o+j,none⟩=some v)→RE w fz (a::sh) b o e:=by
 obtain⟨x,u,l',cs',rfl,rfl,h1,h2,h⟩:=h
 obtain⟨e,g1,g2,g3⟩:=VOk.els (f:=a.pv) (P:=RA w fz a) (Q:=SzA a) x u h h2 h1
 exact⟨e,g1,by unfold SzE;exact g2,fun b o hc=>by unfold RE;exact g3 b o hc⟩
end
section
variable {H:Type} {enc:TypeId×Value→H} {P:Program} {T:TypeId→Option TI} {w:World} {spare:Nat→Bool} {held:Bool}
theorem NN (hT : ∀t ti,T t=some ti→ra P t ti) {t:TypeId} {ti:TI} (h:T t=some ti):P.cellsOf t=ti.n:=by
 obtain⟨i,h1,h2, -⟩:=(hT t ti h).info
 simp [Program.cellsOf,h1,h2]
theorem HM {a:Addr} {u:Value} (h:w.cell? a=some u):a=⟨a.block,a.off,none⟩:=by
 unfold World.cell? at h
 split at h
 ·split at h
  ·cases h
  ·rename_i hs
   cases hsp:a.spot with
   | none=>cases a;simp at hsp;subst hsp;rfl
   | some q=>rw [hsp] at hs;simp at hs
 ·cases h
theorem add_plain (b o k:Nat):(⟨b,o,none⟩:Addr).add k=⟨b,o+k,none⟩:=by
 unfold Addr.add
 split
 ·rename_i h;rw [h];rfl
 ·rfl
theorem uW (f:TypeId→Option (List aw)) (hf : ∀t sh,f t=some sh→P.cellsOf t=sh.length∧∀n cs x,DataW.trod enc P w 0 spare held n t cs=some x→∃l,VOk w (fun b=>b<w.heap.size) sh l cs) :
 ∀(fs:List (Nat×TypeId)) (k:Nat) (s:List aw) (cs:List Value),Dr f fs k=some s→cs.length=k+s.length→
  (∀(i:Nat) (o:Nat) (t:TypeId),fs[i]? =some (o,t)→∃n x,DataW.trod enc P w 0 spare held n t ((cs.drop o).take (P.cellsOf t))=some x)→∃l,VOk w (fun b=>b<w.heap.size) s l (cs.drop k)
 | [],k,s,cs,h,hl,_=>by
   simp only [Dr,Option.some.injEq] at h
   subst h
   exact⟨[],rfl,List.drop_of_length_le (by simp at hl;omega)⟩
 | (o,t)::r,k,s,cs,h,hl,hx=>by
   unfold Dr at h
   split at h
   ·rename_i hk
    obtain rfl:=Nat.eq_of_beq_eq_true hk
    split at h
    ·rename_i sh hsh
     split at h
     ·rename_i s' hs'
      cases h
      obtain⟨h1,h2⟩:=hf t sh hsh
      obtain⟨n,x,h3⟩:=hx 0 o t rfl
      obtain⟨l,h4⟩:=h2 n _ x h3
      obtain⟨l',h5⟩:=uW f hf r (o+sh.length) s' cs hs' (by rw [hl,List.length_append];omega) fun i o' t' h=>hx (i+1) o' t' (by simpa using h)
      refine⟨l++l',?_⟩
      have:=h4.app h5
      rw [h1,←List.drop_drop,List.take_append_drop] at this
      exact this
     ·cases h
    ·cases h
   ·cases h
theorem wV {a:aw} {r:List aw} {t e:TypeId} (hu:P.underlying t=some (.slice e)) (hc:P.cellsOf e=(a::r).length)
 (hf : ∀n cs x,DataW.trod enc P w 0 spare held n e cs=some x→∃l,VOk w (fun b=>b<w.heap.size) (a::r) l cs) (n:Nat) (cs:List Value) (x:DataW H×List MemPlace) (hx:DataW.trod enc P w 0 spare held n t cs=some x) :
 ∃l,VOk w (fun b=>b<w.heap.size) [.r (a::r)] l cs:=by
 rcases Deep.open_slice hu hx with ⟨rfl, -⟩ | ⟨ad,len,cap,m,k,D,Pl,rfl, -,hlc,hcm,hm, -,hcell⟩
 ·exact⟨_,[],_,[],[],rfl,rfl,by unfold SzA;exact⟨by simp,fun e he=>by cases he⟩,by unfold RA;exact⟨none,0,rfl,Nat.le_refl _,fun i x hx=>by simp at hx⟩,rfl,rfl⟩
 ·have hlm:len≤m:=by rw [hm];split<;>omega
  have key0 : ∀i,i<len→∃(cs':List Value) (y:El (a::r)),cs'.length=(a::r).length ∧(∀j,j<(a::r).length →w.cell? ((ad.add (i*(a::r).length)).add j)=cs'[j]?)∧SzE (a::r) y∧∀b o,(∀j v,cs'[j]? =some v→w.cell? ⟨b,o+j,none⟩=some v)→RE w (fun b=>b<w.heap.size) (a::r) b o y:=fun i hi=>by
   obtain⟨cs',g1,g2⟩:=hcell i (by omega)
   obtain⟨l,hl⟩:=hf _ _ _ g2
   obtain⟨y, -,h2,h3⟩:=hl.el
   rw [hc] at g1
   obtain⟨_,_,g3⟩:=World.cells?_some g1
   exact⟨cs',y,hl.len,g3,h2,h3⟩
  have hadp:0<len→ad=⟨ad.block,ad.off,none⟩∧ad.block<w.heap.size:=fun h0=>by
   obtain⟨cs',y,hlen,g3, -, -⟩:=key0 0 h0
   have g0:=g3 0 (by simp)
   obtain⟨u,hu⟩ : ∃u,cs'[0]? =some u:=⟨_,List.getElem?_eq_getElem (by rw [hlen];simp)⟩
   rw [hu,Nat.zero_mul] at g0
   have g0:w.cell? ad=some u:=g0
   exact⟨HM g0,World.block_lt_of_cell? w _ g0⟩
  have key : ∀i,i<len→∃y:El (a::r),SzE (a::r) y∧ad=⟨ad.block,ad.off,none⟩∧ad.block<w.heap.size∧RE w (fun b=>b<w.heap.size) (a::r) ad.block (ad.off+i*(a::r).length) y:=fun i hi=>by
   obtain⟨cs',y,hlen,g3,h2,h3⟩:=key0 i hi
   obtain⟨hp,hb⟩:=hadp (by omega)
   refine⟨y,h2,hp,hb,h3 _ _ fun j v hv=>?_⟩
   have hj:j<(a::r).length :=by rw [←hlen];exact (List.getElem?_eq_some_iff.1 hv).1
   have:=g3 j hj
   rw [hp,add_plain,add_plain] at this
   rw [←hv,←this]
  haveI:Inhabited (El (a::r)):=⟨dE _⟩
  obtain⟨V,hV⟩:=Deep.choose_lt (n:=len) (α:=El (a::r)) (p:=fun i y=>SzE (a::r) y∧ad=⟨ad.block,ad.off,none⟩∧ad.block<w.heap.size∧RE w (fun b=>b<w.heap.size) (a::r) ad.block (ad.off+i*(a::r).length) y) key
  have hlen:((List.range len).map V).length =len:=by simp
  have hcm':cap≤9223372036854775807:=hcm
  have hs1:((((List.range len).map V).length : Nat):Int)≤9223372036854775807:=by rw [hlen];omega
  have hs2 : ∀y∈(List.range len).map V,SzE (a::r) y:=fun y hy=>by
   obtain⟨i,hi,rfl⟩:=List.mem_map.1 hy
   exact (hV i (List.mem_range.1 hi)).1
  refine⟨_,(List.range len).map V,_,[],[],rfl,rfl,by unfold SzA;exact⟨hs1,hs2⟩,?_,rfl,rfl⟩
  ·unfold RA
   refine⟨some ad,cap,by rw [hlen],by rw [hlen];exact hlc,fun i y hy=>?_⟩
   have hi:i<len:=by have:=(List.getElem?_eq_some_iff.1 hy).1;rwa [hlen] at this
   rw [List.getElem?_map,List.getElem?_range hi] at hy
   simp only [Option.map_some,Option.some.injEq] at hy
   subst hy
   obtain⟨-,h2,h3,h4⟩:=hV i hi
   exact⟨_,_,congrArg some h2,h3,h4⟩
theorem zR (hT : ∀t ti,T t=some ti→ra P t ti) : ∀(m:Nat) (t:TypeId) (sh:List aw),yz T m t=some sh→P.cellsOf t=sh.length∧
 ∀n cs x,DataW.trod enc P w 0 spare held n t cs=some x→∃l,VOk w (fun b=>b<w.heap.size) sh l cs
 | 0,_,_,h=>by simp [yz] at h
 | m+1,t,sh,h=>by
   have ih:=zR hT m
   unfold yz at h
   split at h
   ·rename_i ti hti
    obtain⟨d,hd, -,hu⟩:=(hT t ti hti).und
    have hn:=NN hT hti
    split at h
    ·rename_i s hs
     split at h
     ·rename_i hl
      cases h
      have hl:=Nat.eq_of_beq_eq_true hl
      refine⟨hn.trans hl,?_⟩
      generalize ti.d=td at hs hu
      cases td with
      | int k=>
        cases hs
        simp only at hu
        subst hu
        intro n cs x hx
        obtain⟨k,rfl, -,hw⟩:=DataW.trod_int hd hx
        simp only [Lit.wf,Bool.and_eq_true,decide_eq_true_eq] at hw
        exact⟨_,k,_,[],[],rfl,rfl,by unfold SzA;exact hw,by unfold RA;rfl,rfl,rfl⟩
      | bool=>
        cases hs
        simp only at hu
        subst hu
        intro n cs x hx
        obtain⟨k,rfl, -⟩:=DataW.trod_bool hd hx
        exact⟨_,k,_,[],[],rfl,rfl,by unfold SzA;trivial,by unfold RA;rfl,rfl,rfl⟩
      | str=>
        cases hs
        simp only at hu
        subst hu
        intro n cs x hx
        obtain⟨s,rfl, -,hw⟩:=DataW.trod_string hd hx
        refine⟨_,s.data.toList,_,[],[],rfl,rfl,?_,by unfold RA;rfl,rfl,rfl⟩
        unfold SzA
        have : s.size≤9223372036854775807:=hw
        have e:s.data.toList.length=s.size:=Array.length_toList
        omega
      | sl e=>
        simp only at hu
        subst hu
        simp only [OE] at hs
        split at hs
        ·rename_i a r hr
         cases hs
         obtain⟨h1,h2⟩:=ih _ _ hr
         exact wV hd h1 h2
        ·cases hs
      | st fs=>
        simp only at hu
        obtain⟨F,rfl,hF, -⟩:=hu
        intro n cs x hx
        obtain⟨xs,n', -, -,hcl,hxl,hf⟩:=DataW.trod_struct hd hx
        have:=uW (yz T m) ih fs 0 _ cs hs (by rw [hcl,hn,hl];omega) fun i o t h=>by
         rw [←hF,List.getElem?_map] at h
         cases hfi:F.toList[i]? with
         | none=>rw [hfi] at h;cases h
         | some f=>
           rw [hfi] at h
           simp only [Option.map_some,Option.some.injEq,Prod.mk.injEq] at h
           obtain⟨rfl,rfl⟩:=h
           have h3:=hf i f (by rw [←Array.getElem?_toList];exact hfi)
           have hi:i<xs.length:=by
            have:=(List.getElem?_eq_some_iff.1 hfi).1
            rw [hxl];simpa using this
           rw [List.getElem?_eq_getElem hi] at h3
           exact⟨n',_,h3⟩
        rw [List.drop_zero] at this
        exact this
      | _=>cases hs
     ·cases h
    ·cases h
   ·cases h
theorem IR (hT : ∀t ti,T t=some ti→ra P t ti) {t:TypeId} {sh:List aw} (m:Nat) (h:yz T m t=some sh) {v:Value} {d:DataW H} {p:List MemPlace} (hx:DataW.Trod enc P w 0 spare held t v d p) : ∃l,VOk w (fun b=>b<w.heap.size) sh l v.cells.toList:=by
 obtain⟨n,hn⟩:=hx
 exact (zR hT m t sh h).2 _ _ _ hn
end
end Ax
end Go.Proofs.YtjjonmhpgkahoaaGreatDoor
namespace Go.Proofs.YtjjonmhpgkahoaaGreatDoor
open Go.ChangeShapes Go.WideShapes Go.ChangeAt Go.RowKit Go.Joins
set_option maxRecDepth 100000
theorem rN {H:Type} {enc:TypeId×Value→H} {a:Assume} {C:Checked} {os:Os} {f:FuncId} {fn:Func} {s:ChangeSpec} {conds:List PathCond} {apart fresh handsOn again:Bool} {X:World→Array Value→Prop}
 (hX : ∀(w w':World) (args:Array Value),w.heap=w'.heap→X w args→X w' args)
 (own:ownKnob C.prog.godebug=none) (started:os.Started) (noInit:C.prog.inits.idxOf? f=none) (hfn:C.prog.funcs[f]? =some fn)
 (witness : ∃(w:World) (tape:Tape) (i:Input),w.os=os∧(w.forCall tape i).Shaped C.prog∧i.vars=[]∧Input.okWide C.prog (w.forCall tape i) .any w.heap.size f i∧
   ((s.pre enc C.prog fn conds apart (w.forCall tape i).memory i.args∧X (w.forCall tape i).memory i.args)∧sizedMet enc C.prog fn (OpenSpec.ofChange s) apart (w.forCall tape i).memory i.args)∧a.holds C.prog (lone (Frame.enter C.prog f i.args .normal) [] (w.forCall tape i)))
 (contract : ∀(W:World) (base:Nat) (args:Array Value) (ds gs:List (DataW H)) (before:List MemPlace),
   (∀(j:Nat) t v,fn.params[j]? =some t→args[j]? =some v→Value.okWide C.prog W .any base t v)→
   DataW.Whole enc C.prog fn.params.toList s.vars apart W args.toList ds gs before→
   W.ShapedOpen C.prog→X W args→
   Calls C.prog f args W fun e W'=>∃v,e=.returned v∧s.post enc C.prog fn apart fresh handsOn again W args v W') :
 ReturnsInHanded a C os f .any (fun w args=>(s.pre enc C.prog fn conds apart w args∧X w args)∧sizedMet enc C.prog fn (OpenSpec.ofChange s) apart w args) (s.post enc C.prog fn apart fresh handsOn again):=by
 refine returnsInHanded_of_calls own started noInit witness ?_
 intro w tape i _ hsh _ hok hpre _
 obtain⟨_,_,_,fn',hfn',_,_,_,_,hval⟩:=hok
 have e:fn'=fn:=Option.some.inj (hfn'.symm.trans hfn)
 subst e
 obtain⟨⟨⟨ds,gs,before,hw,_⟩,hx⟩,_⟩:=hpre
 have hw':=DataW.Whole.of_heap (w':=w.forCall tape i) (by rfl) hw
 refine (contract (w.forCall tape i) w.heap.size i.args ds gs before hval hw' hsh (hX _ _ _ (by rfl) hx)).mono fun e W' ⟨v,he,hp⟩=>?_
 subst he
 exact ChangeSpec.post_blind hp
theorem UO:ownKnob Tryz.prog.godebug=none:=by kernel_rfl
theorem Ka:laidOutB Tryz.prog=true:=by kernel_rfl
namespace Ax
def e0 (W:World):Env:=⟨fun _=>none,fun _=>0,fun _=>0,fun b=>b<W.heap.size,fun _=>False,fun _=>False⟩
theorem S7 {W:World} (h:Gl W):FzW W (e0 W).fz :=⟨fun _ h=>h,W,h,fun _ h=>h,Below.refl _ _⟩
theorem Ni:yz tyT 6 22=some [.r [.i .u8]]:=by kernel_rfl
theorem P5 {w:World} {fz:Nat→Prop} {l:List PV} {cs:List Value} (h:VOk w fz [.r [.i .u8]] l cs) : ∃x:List Int,l=[.rsl [.i .u8] x]∧CbP x:=by
 obtain⟨x,_,_,_,rfl, -,z, -,rfl, -⟩:=h
 unfold SzA at z
 refine⟨x,rfl,⟨fun y hy=>?_,z.1⟩⟩
 have h2:=z.2 y hy
 unfold SzE IJ SzA at h2
 exact h2
theorem H9 {f:FuncId} {S:aa} (h:FOk Tryz.prog f S) {args:List PV} {pre:Prop} (hs:S args=some ⟨[pre],.b true,[]⟩) (hp:pre) {W:World} (hg:Gl W) {vals:Array Value} (hl:Rs W (e0 W) args vals.toList) :
 Calls Tryz.prog f vals W fun e W'=>e=.returned (.bool true)∧Below W.heap.size W W':=by
 refine (h.run args _ hs (fun p hm=>by rw [List.mem_singleton.1 hm];exact hp) W (e0 W) vals (S7 hg) hl).mono ?_
 rintro en w' ⟨u,e',rfl,hP⟩
 have hv:=hP.val
 unfold R at hv
 subst hv
 exact⟨rfl,⟨hP.chg.os,hP.chg.tape,hP.chg.output,hP.chg.size,fun b hb=>hP.chg.block b hb fun ⟨k,hk,_⟩=>hk.elim⟩⟩
end Ax
end Go.Proofs.YtjjonmhpgkahoaaGreatDoor
namespace Go.Proofs.YtjjonmhpgkahoaaGreatDoor
namespace Ax
set_option maxRecDepth 100000
set_option maxHeartbeats 20000000
theorem wb {g:Gm} (h:BeB g) (hv:az g=true):iU g:=h.f.resolve_right fun e=>by rw [hv] at e;cases e
theorem Tz {g:Gm} (h:BeB g) (hv:az g=true):FdP g:=DrG.fd ⟨hv,wb h hv,h.b,h.lx⟩
set_option maxHeartbeats 2000000
section
variable {g:Gm} {q:Pl} {n:Int}
end
set_option maxHeartbeats 20000000
@[reducible] def V5:List aw:=[.i .i64,.i .i64,.b,.s]
theorem Ql {b:Bd} (h:b.Fit):BdP b:=by
 have h1:=h.lo;have h2:=h.hi;have h3:=h.prem;have h4:=h.cells
 have h5:b.size*b.size≤225:=(Int.mul_le_mul h2 h2 (by omega) (by decide):b.size*b.size≤15*15)
 exact⟨by omega,by omega⟩
set_option maxHeartbeats 2000000
structure Vd where
 words:List (List UInt8)
 wrong:List (List UInt8)
 up:Bool
 pts:Int
def Er:List PV→Option Vd
 | [.rsl [.s] a,.rsl [.s] b,.b c,.i .i64 d]=>some ⟨a,b,c,d⟩
 | _=>none
def vdK (v:Vd) (a b:PV):List PV:=[a,b,.b v.up,.i .i64 v.pts]
theorem Mo {l:List PV} {v:Vd} (h:Er l=some v):l=vdK v (.rsl [.s] v.words) (.rsl [.s] v.wrong):=by
 unfold Er at h
 split at h
 ·cases h;rfl
 ·cases h
def aVd:gi Vd:=⟨Er,fun v=>vdK v (.rsl [.s] v.words) (.rsl [.s] v.wrong),fun _ _=>Mo⟩
structure VdN (v:Vd):Prop where
 a:(v.words.length:Int)≤1073741824
 b:(v.wrong.length:Int)≤1073741824
@[simp] theorem JK (v:Vd):Vd.mk v.words v.wrong v.up v.pts=v:=rfl
set_option maxHeartbeats 20000000
structure WdS (n:Int) (L:List (List UInt8)):Prop where
 l:(L.length:Int)≤n
 w : ∀x∈L,x.length≤3
structure VdB (v:Vd):Prop where
 a:WdS 3 v.words
 b:WdS 2 v.wrong
 p : -30≤v.pts∧v.pts≤30
theorem Pe:WdS 0 []:=⟨Int.le_refl _,fun x h=>by cases h⟩
theorem WdS.le {n m:Int} {L:List (List UInt8)} (h:WdS n L) (k:n≤m):WdS m L:=⟨Int.le_trans h.l k,h.w⟩
theorem WdS.sn {n:Int} {L:List (List UInt8)} {x:List UInt8} (h:WdS n L) (hx:x.length≤3):WdS (n+1) (L++[x]):=by
 refine⟨?_,fun y hy=>?_⟩
 ·have:=h.l
  rw [List.length_append,List.length_singleton];omega
 ·rcases List.mem_append.1 hy with h1 | h1
  ·exact h.w y h1
  ·rw [List.mem_singleton.1 h1];exact hx
theorem txl {σ:Src} {l:List (List UInt8)} (h : ∀x∈l,x.length≤3):(txV σ l).length ≤3:=by
 unfold txV
 rw [List.getD_eq_getElem?_getD]
 cases e:l[(pkV σ l.length).toNat]? with
 | none=>exact Nat.zero_le _
 | some y=>exact h y (List.mem_of_getElem? e)
theorem JG {m n:Int} {σ S:Src} (h:far m σ S) (hc:S.code=σ.code):far (m+2) σ ⟨σ.code,(pkS S n).pos,(pkS S n).seed⟩:=by
 rw [Cz ((ak S n).trans hc)]
 exact h.pk n
def fT (_:Pr):d7:=nsp (mS a0) (fun (σ,_u)=>db 999999950000 σ) (fun (σ,_u)=>rS (aA aVd)) (fun (σ,_u) (τ,v)=>far 100 σ τ∧VdB v)
theorem qo:NOk Tryz.prog 144 (fT std):=by
 refine NOk.go (c:=cxN std [] [(96,aF std),(64,aj std),(193,pa std)] [] 1 (if false then some dU else none) []) (jk .nil (.cons ct (.cons aL (.cons DQ .nil))) .nil) mixed Tryz.func144 rfl rfl (by kernel_rfl) ?_
 rintro ⟨σ,_u⟩ hp
 dsimp only at hp
 refine⟨rfl,?_⟩
 unfold aF aj pa
 obtain⟨H,hH⟩ : ∃H:Hd (Int×Int×Int×List (List UInt8)),H=⟨fun (k,a,z,L)=>0≤k∧k≤3∧far (20-3*k) σ ⟨σ.code,a,z⟩∧WdS (3-k) L,fun (k,a,z,L)=>k.toNat,(· < ·)⟩:=⟨_,rfl⟩
 have hl:=hdl hH
 obtain⟨H2,hH2⟩ : ∃H:Hd (Int×Int×Int×List (List UInt8)),H=⟨fun (k2,a2,z2,L2)=>0≤k2∧k2≤2∧far (60-3*k2) σ ⟨σ.code,a2,z2⟩∧WdS (2-k2) L2,fun (k2,a2,z2,L2)=>k2.toNat,(· < ·)⟩:=⟨_,rfl⟩
 have hl2 : ∀m n,H2.lt m n→m<n:=by subst hH2;exact fun _ _ h=>h
 generalize hP:std=p,hB0:pkS=B0,hB1:pkV=B1,hB2:txV=B2,hB3:far=B3
 cbv
 repeat' first|refine fun (_:Unit)=>?_;cbv|refine Or.inr ⟨14,[(.c 2 0,[.s],9)],[.s 4 (.i .i64),.c 0 1 (.i .i64),.c 0 2 (.i .u64),.o 3 [.s]],[.c 2 0],[],H,rfl,hl,?_,fun ((k,a,z,L):Int×Int×Int×List (List UInt8)) hk=>?_⟩<;>cbv|refine Or.inr ⟨28,[(.c 2 1,[.s],9)],[.s 5 (.i .i64),.c 0 1 (.i .i64),.c 0 2 (.i .u64),.o 4 [.s]],[.c 2 1],[],H2,rfl,hl2,?_,fun ((k2,a2,z2,L2):Int×Int×Int×List (List UInt8)) hk2=>?_⟩<;>cbv|refine aI2 (fun h=>?_) (fun h=>?_)<;>cbv|refine aI2 ?_ ?_
 all_goals subst hP hB0 hB1 hB2 hB3 hH hH2
 all_goals clear hl
 all_goals try dsimp only at hk
 all_goals clear hl2
 all_goals try dsimp only at hk2
 all_goals try dsimp only
 all_goals try exact fin
 all_goals (try simp only [mA] at *)
 all_goals (try simp only [ak] at *)
 all_goals have s1:=ai hp 2
 all_goals have s2:=ai s1 60
 ·exact hp.le (by decide)
 ·exact s1.le (by decide)
 ·have h9:=ew s1 (n:=60)
  have h8:=h9.2.1 (by decide)
  exact an (by show _≤pkV (pkS σ 2) 60-30∧pkV (pkS σ 2) 60-30≤_;omega)
 ·exact s2.le (by decide)
 ·have h9:=ew s2 (n:=4)
  have h8:=h9.2.1 (by decide)
  exact⟨h9.1,by omega,EJ (X:=pkS (pkS (pkS σ 2) 60) 4) (((wI σ 2).pk 60).pk 4 |>.le (by omega)),Pe.le (by omega)⟩
 all_goals obtain⟨k0,k1,hf,hw⟩:=hk
 all_goals have hc:(Src.mk σ.code a z).code =σ.code:=rfl
 all_goals have s0:db 999999960000 ⟨σ.code,a,z⟩:=(hf.s _ hp).le (by omega)
 all_goals generalize Src.mk σ.code a z=S0 at *
 all_goals try exact s0.le (by decide)
 ·exact Int.NonNeg.mk _
 ·exact Int.NonNeg.mk _
 ·have h6:=hw.l
  show (L.length:Int)+1≤274877906944
  omega
 ·have hlt:0<k:=ah ‹_›
  refine⟨by show 0≤k-1;omega,by show k-1≤3;omega,?_,?_⟩
  ·exact (JG (n:=((([[116,101,110],[101,116],[97,116]]:List (List UInt8)).length : Nat):Int)) hf hc).le (by show 20-3*k+2≤20-3*(k-1);omega)
  ·have h7:=hw.sn (txl (σ:=S0) (l:=[[116,101,110],[101,116],[97,116]]) (by decide))
   exact h7.le (by show 3-k+1≤3-(k-1);omega)
 ·have hge:k≤0:=ao ‹_›
  have h9:=ew s0 (n:=3)
  have h8:=h9.2.1 (by decide)
  refine⟨h9.1,by omega,?_,Pe.le (by omega)⟩
  show far (60-3*pkV S0 3) σ ⟨σ.code,(pkS S0 3).pos,(pkS S0 3).seed⟩
  rw [Cz ((ak S0 3).trans hc)]
  exact (hf.pk 3).le (by omega)
 all_goals obtain⟨m0,m1,hf2,hw2⟩:=hk2
 all_goals have hc2:(Src.mk σ.code a2 z2).code =σ.code:=rfl
 all_goals have s4:db 999999960000 ⟨σ.code,a2,z2⟩:=(hf2.s _ hp).le (by omega)
 all_goals generalize Src.mk σ.code a2 z2=S2 at *
 ·exact s4.le (by decide)
 ·exact Int.NonNeg.mk _
 ·exact Int.NonNeg.mk _
 ·have h6:=hw2.l
  show (L2.length:Int)+1≤274877906944
  omega
 ·have hlt:0<k2:=ah ‹_›
  refine⟨by show 0≤k2-1;omega,by show k2-1≤2;omega,?_,?_⟩
  ·exact (JG (n:=((([[120,120],[113]]:List (List UInt8)).length : Nat):Int)) hf2 hc2).le (by show 60-3*k2+2≤60-3*(k2-1);omega)
  ·have h7:=hw2.sn (txl (σ:=S2) (l:=[[120,120],[113]]) (by decide))
   exact h7.le (by show 2-k2+1≤2-(k2-1);omega)
 ·exact hf2.le (by omega)
 ·have h9:=ew s1 (n:=60)
  have h8:=h9.2.1 (by decide)
  exact⟨hw.le (by omega),hw2.le (by omega),by show -30≤pkV (pkS σ 2) 60-30∧pkV (pkS σ 2) 60-30≤30;omega⟩
def voC (g:Gm):Int:=if az g then (if eN g then 0 else 6) else 1
def vd0:Vd:=⟨[],[],false,0⟩
def vdG (g:Gm):Vd:=⟨cZ g,cC g,vUp g,dV g⟩
def voR (g:Gm):Vd:=if voC g=0 then vdG g else vd0
def vdR (v:Vd):List PV:=vdK v (.rsl [.s] v.words) (.rsl [.s] v.wrong)
section
variable {g:Gm}
structure VoF (g:Gm):Prop where
 v:GV g
 c:eN g=true
 ok:eg g=true
theorem xm (h:voC g=0):VoF g:=by
 unfold voC at h
 split at h
 ·rename_i hv
  split at h
  ·rename_i hc
   have hg:=oJ hv
   refine⟨hg,hc,?_⟩
   have hl:=hg.la
   have hc:=hc
   unfold eN at hc
   simp only [Bool.and_eq_true,beq_iff_eq] at hc
   have hk:g.last.kind=1:=hc.2.2
   unfold c9 at hl
   rw [if_neg (by omega),if_neg (by omega),if_pos hk] at hl
   exact hl
  ·cases h
 ·cases h
theorem VoF.ts (h:VoF g):tsB g.ts=true∧lexB g.lex=true:=by
 have h8:=h.v.su
 unfold jp at h8
 simp only [Bool.and_eq_true] at h8
 exact⟨h8.1,h8.2.1⟩
theorem VoF.cv (h:VoF g):ChV g:=by
 have hk:=pkf h.ok
 have hb:bdB g.bef=true:=by have:=hk.ok;unfold Go.Proofs.YtjjonmhpgkahoaaGreatDoor.okB at this;rw [Bool.and_eq_true] at this;exact this.1
 have hv:bs g.bef g.last.play=true:=by rw [←d5 hb];exact hk.ok
 exact⟨hb,hv,VP.of hb hv⟩
theorem VoF.so (h:VoF g):0≤g.last.score:=by
 have hk:=pkf h.ok
 have hv:=h.cv
 rw [hk.so,fy hv.bd hv.v]
 exact (Go.Proofs.YtjjonmhpgkahoaaGreatDoor.score_bd (jm h.ts.1) g.bef g.last.play (by have:=(be hv.v).2.2.2;omega)).1
theorem VoF.vd (h:VoF g) (hw:WsP g.lex):VdP g:=⟨my (pkf h.ok).ok,hw,by have:=h.so;omega,by have:=(pkf h.ok).s2;omega⟩
theorem VoF.ve (h:VoF g):VeP g:=⟨h.cv.vp,AT h.ts.2,by have:=h.so;have:=(pkf h.ok).s2;omega,(pkf h.ok).ok⟩
theorem vq1 (hc:voC g=0) (h:az g=false):False:=by have:=(xm hc).v.b;rw [h] at this;cases this
theorem vq2 (hc:voC g=0) (h:eN g=false):False:=by have:=(xm hc).c;rw [h] at this;cases this
theorem vn1 (h:az g=false):1=voC g:=by
 unfold voC
 rw [h];rfl
theorem vn2 (h:az g=true) (h2:eN g=false):6=voC g:=by
 unfold voC
 rw [h,h2];rfl
theorem vn3 (hc:voC g≠0) (h:az g=true) (h2:eN g=true):False:=by
 unfold voC at hc
 rw [h,h2] at hc
 exact hc rfl
end
structure VsY (g:Gm):Prop where
 b:GmL g
 c:voC g=0
structure VsN (g:Gm):Prop where
 b:GmL g
 c:voC g≠0
structure ViY (g:Gm):Prop where
 b:GmQ g
 c:voC g=0
structure ViN (g:Gm):Prop where
 b:GmQ g
 c:voC g≠0
def un (p:Pr):aa:=fsp (a1 (aA aGm)) (fun g=>VsY g) (fun g=>.tup [.agg [.osl 0,.osl 1,.b (vUp g),.i .i64 (dV g)],.i .i64 0]) (fun g=>[(0,.own [.s] (cZ g) 9),(1,.own [.s] (cC g) 9)])
theorem tR:FOk Tryz.prog 52 (un std):=by
 refine FOk.go (c:=cx std [(88,dl std),(142,cw std),(143,cn std)] [] 0) (ae (.cons lD (.cons ig (.cons gE .nil))) .nil) mixed Tryz.func52 rfl rfl rfl (by kernel_rfl) ?_
 rintro g hp
 refine⟨rfl,?_⟩
 unfold dl cw cn
 generalize hP:std=p,hB0:az=B0,hB1:eN=B1,hB2:vUp=B2,hB3:dV=B3,hB4:cZ=B4,hB5:cC=B5
 cbv
 repeat' first|refine fun (_:Unit)=>?_;cbv|refine aI2 (fun h=>?_) (fun h=>?_)<;>cbv|refine aI2 ?_ ?_|refine Or.inl (fun (_:Unit)=>?_);cbv
 all_goals subst hP hB0 hB1 hB2 hB3 hB4 hB5
 all_goals try exact fin
 all_goals try (exfalso;exact vq1 hp.c ‹_›)
 all_goals try (exfalso;exact vq2 hp.c ‹_›)
 all_goals first
  | exact hp.b
  | exact (xm hp.c).vd hp.b.su.ws
  | exact rfl
  | skip
def uw (p:Pr):aa:=fsp (a1 (aA aGm)) (fun g=>VsN g) (fun g=>.tup [.agg [.esl,.esl,.b false,.i .i64 0],.i .i64 (voC g)])
theorem uI:FOk Tryz.prog 52 (uw std):=by
 refine FOk.go (c:=cx std [(88,dl std),(142,cw std),(143,cn std)] [] 0) (ae (.cons lD (.cons ig (.cons gE .nil))) .nil) mixed Tryz.func52 rfl rfl rfl (by kernel_rfl) ?_
 rintro g hp
 refine⟨rfl,?_⟩
 unfold dl cw cn
 generalize hP:std=p,hB0:az=B0,hB1:eN=B1,hB2:vUp=B2,hB3:dV=B3,hB4:cZ=B4,hB5:cC=B5,hB6:voC=B6
 cbv
 repeat' first|refine fun (_:Unit)=>?_;cbv|refine aI2 (fun h=>?_) (fun h=>?_)<;>cbv|refine aI2 ?_ ?_|refine Or.inl (fun (_:Unit)=>?_);cbv
 all_goals subst hP hB0 hB1 hB2 hB3 hB4 hB5 hB6
 all_goals try exact fin
 all_goals try (exfalso;exact vn3 hp.c ‹_› ‹_›)
 all_goals first
  | exact hp.b
  | exact vn1 ‹_›
  | exact vn2 ‹_› ‹_›
  | skip
def uj (p:Pr):aa:=fsp (a1 (aA aGm)) (fun g=>ViY g) (fun g=>.tup [.agg [.osl 0,.osl 1,.b (iUp g),.i .i64 (oy g)],.i .i64 0]) (fun g=>[(0,.own [.s] (kQ g) 9),(1,.own [.s] (fB g) 9)])
theorem uo:FOk Tryz.prog 51 (uj std):=by
 refine FOk.go (c:=cx std [(16,bO std),(138,aH std),(140,bI std)] [] 0) (ae (.cons fk (.cons cz (.cons eY .nil))) .nil) mixed Tryz.func51 rfl rfl rfl (by kernel_rfl) ?_
 rintro g hp
 refine⟨rfl,?_⟩
 unfold bO aH bI
 generalize hP:std=p,hB0:az=B0,hB1:eN=B1,hB2:iUp=B2,hB3:oy=B3,hB4:kQ=B4,hB5:fB=B5
 cbv
 repeat' first|refine fun (_:Unit)=>?_;cbv|refine aI2 (fun h=>?_) (fun h=>?_)<;>cbv|refine aI2 ?_ ?_|refine Or.inl (fun (_:Unit)=>?_);cbv
 all_goals subst hP hB0 hB1 hB2 hB3 hB4 hB5
 all_goals try exact fin
 all_goals try (exfalso;exact vq1 hp.c ‹_›)
 all_goals try (exfalso;exact vq2 hp.c ‹_›)
 all_goals first
  | exact hp.b
  | exact (xm hp.c).ve
  | exact rfl
  | skip
def ut (p:Pr):aa:=fsp (a1 (aA aGm)) (fun g=>ViN g) (fun g=>.tup [.agg [.esl,.esl,.b false,.i .i64 0],.i .i64 (voC g)])
theorem ux:FOk Tryz.prog 51 (ut std):=by
 refine FOk.go (c:=cx std [(16,bO std),(138,aH std),(140,bI std)] [] 0) (ae (.cons fk (.cons cz (.cons eY .nil))) .nil) mixed Tryz.func51 rfl rfl rfl (by kernel_rfl) ?_
 rintro g hp
 refine⟨rfl,?_⟩
 unfold bO aH bI
 generalize hP:std=p,hB0:az=B0,hB1:eN=B1,hB2:iUp=B2,hB3:oy=B3,hB4:kQ=B4,hB5:fB=B5,hB6:voC=B6
 cbv
 repeat' first|refine fun (_:Unit)=>?_;cbv|refine aI2 (fun h=>?_) (fun h=>?_)<;>cbv|refine aI2 ?_ ?_|refine Or.inl (fun (_:Unit)=>?_);cbv
 all_goals subst hP hB0 hB1 hB2 hB3 hB4 hB5 hB6
 all_goals try exact fin
 all_goals try (exfalso;exact vn3 hp.c ‹_› ‹_›)
 all_goals first
  | exact hp.b
  | exact vn1 ‹_›
  | exact vn2 ‹_› ‹_›
  | skip
def io (p:Pr):aa:=fsp (a1 (aA aGm)) (fun g=>GmQ g) (fun g=>.b (az g&&eN g))
theorem sL:FOk Tryz.prog 54 (io std):=by
 refine FOk.go (c:=cx std [(16,bO std),(138,aH std)] [] 0) (ae (.cons fk (.cons cz .nil)) .nil) mixed Tryz.func54 rfl rfl rfl (by kernel_rfl) ?_
 rintro g hp
 refine⟨rfl,?_⟩
 unfold bO aH
 generalize hP:std=p,hB0:az=B0,hB1:eN=B1
 cbv
 repeat' first|refine fun (_:Unit)=>?_;cbv|refine aI2 (fun h=>?_) (fun h=>?_)<;>cbv|refine aI2 ?_ ?_|refine Or.inl (fun (_:Unit)=>?_);cbv
 all_goals subst hP hB0 hB1
 all_goals try exact fin
 all_goals first
  | exact hp
  | (simp_all;done)
  | skip
def is (p:Pr):aa:=fsp (a1 (aA aGm)) (fun g=>GmL g) (fun g=>.b (az g&&eN g))
theorem sX:FOk Tryz.prog 55 (is std):=by
 refine FOk.go (c:=cx std [(88,dl std),(142,cw std)] [] 0) (ae (.cons lD (.cons ig .nil)) .nil) mixed Tryz.func55 rfl rfl rfl (by kernel_rfl) ?_
 rintro g hp
 refine⟨rfl,?_⟩
 unfold dl cw
 generalize hP:std=p,hB0:az=B0,hB1:eN=B1
 cbv
 repeat' first|refine fun (_:Unit)=>?_;cbv|refine aI2 (fun h=>?_) (fun h=>?_)<;>cbv|refine aI2 ?_ ?_|refine Or.inl (fun (_:Unit)=>?_);cbv
 all_goals subst hP hB0 hB1
 all_goals try exact fin
 all_goals first
  | exact hp
  | (simp_all;done)
  | skip
def vdH (v:Vd):AH:=[(0,.own [.s] v.words 9),(1,.own [.s] v.wrong 9)]
def vdI (g:Gm):Vd:=⟨kQ g,fB g,iUp g,oy g⟩
theorem RI {g:Gm} (h:VoF g):vdI g=vdG g:=by
 have hv:=h.cv
 unfold vdI vdG
 rw [Rr hv,PM hv,K1 hv,JH hv]
def rVc:qw (Vd×Int):=⟨fun _ l=>match l with
 | [.agg c,.i .i64 n]=>hZ (Er c) (some n)
 | _=>none,fun _=>[],fun a=>.tup [.agg (vdR a.1),.i .i64 a.2]⟩
def chD (g:Gm) (n:Int):Vd:=⟨chW g n,chX g n,chU g n,chP g n⟩
def rCh:qw (Gm×(Vd×Int)):=⟨fun _ l=>match l with
 | [.agg c,.agg d,.i .i64 n]=>hZ (Dp c) (hZ (Er d) (some n))
 | _=>none,fun _=>[],fun a=>.tup [.agg (gmR a.1),.agg (vdR a.2.1),.i .i64 a.2.2]⟩
def xN (p:Pr):aa:=fsp (a1 (aA aGm)) (fun g=>GmL g) (fun g=>.tup [.agg (vdK (voR g) (.osl 0) (.osl 1)),.i .i64 (voC g)]) (fun g=>vdH (voR g))
def Tb (p:Pr):aa:=fsp (a1 (aA aGm)) (fun g=>VsN g) (fun g=>.tup [.agg (vdK vd0 (.osl 0) (.osl 1)),.i .i64 (voC g)]) (fun _=>vdH vd0)
theorem RU:FOk Tryz.prog 52 (Tb std):=FOk.own uI rfl fun g w e u h hr=>
 nC (.cons (l8 (.cons (fun _ hr=>xz (h 0 rfl) hr) (.cons (fun _ hr=>xz (h 1 rfl) hr) (.cons (fun _ h=>h) (.cons (fun _ h=>h) .nil))))) (.cons (fun _ h=>h) .nil)) u hr
theorem xT:FOk Tryz.prog 52 (xN std):=FOk.casesE tR RU fun g hp=>by
 by_cases hc:voC g=0
 ·refine .inl ⟨⟨hp,hc⟩,?_,?_⟩
  ·show PV.tup [.agg (vdK (vdG g) (.osl 0) (.osl 1)),.i .i64 0]=.tup [.agg (vdK (voR g) (.osl 0) (.osl 1)),.i .i64 (voC g)]
   unfold voR
   rw [if_pos hc,hc]
  ·show vdH (vdG g)=vdH (voR g)
   unfold voR
   rw [if_pos hc]
 ·refine .inr ⟨⟨hp,hc⟩,?_,?_⟩
  ·show PV.tup [.agg (vdK vd0 (.osl 0) (.osl 1)),.i .i64 (voC g)]=.tup [.agg (vdK (voR g) (.osl 0) (.osl 1)),.i .i64 (voC g)]
   unfold voR
   rw [if_neg hc]
  ·show vdH vd0=vdH (voR g)
   unfold voR
   rw [if_neg hc]
def vQ (p:Pr):aa:=fsp (a1 (aA aGm)) (fun g=>GmL g) (fun g=>.tup [.agg (vdR (voR g)),.i .i64 (voC g)])
theorem vA:FOk Tryz.prog 52 (vQ std):=FOk.frz xT fun g=>⟨by simp [deep,eK,AH.get,vdH,vdK,vdR],by simp [PV.idIn,cP,vdK,vdR]⟩
def j9 (_:Pr):d7:=nsp (mN (a1 (aA aGm))) (fun g=>GmL g) (fun _=>rVc) (fun g x=>x=(voR g,voC g))
theorem vG:NOk Tryz.prog 52 (j9 std):=NOk.ofF (B:=rVc) (f:=fun a:Gm=>(voR a,voC a)) vA (fun _=>rfl) (fun _=>rfl)
def xL (p:Pr):aa:=fsp (a1 (aA aGm)) (fun g=>GmQ g) (fun g=>.tup [.agg (vdK (voR g) (.osl 0) (.osl 1)),.i .i64 (voC g)]) (fun g=>vdH (voR g))
def TC (p:Pr):aa:=fsp (a1 (aA aGm)) (fun g=>ViN g) (fun g=>.tup [.agg (vdK vd0 (.osl 0) (.osl 1)),.i .i64 (voC g)]) (fun _=>vdH vd0)
theorem Sp:FOk Tryz.prog 51 (TC std):=FOk.own ux rfl fun g w e u h hr=>
 nC (.cons (l8 (.cons (fun _ hr=>xz (h 0 rfl) hr) (.cons (fun _ hr=>xz (h 1 rfl) hr) (.cons (fun _ h=>h) (.cons (fun _ h=>h) .nil))))) (.cons (fun _ h=>h) .nil)) u hr
theorem wA:FOk Tryz.prog 51 (xL std):=FOk.casesE uo Sp fun g hp=>by
 by_cases hc:voC g=0
 ·refine .inl ⟨⟨hp,hc⟩,?_,?_⟩
  ·show PV.tup [.agg (vdK (vdI g) (.osl 0) (.osl 1)),.i .i64 0]=.tup [.agg (vdK (voR g) (.osl 0) (.osl 1)),.i .i64 (voC g)]
   unfold voR
   rw [if_pos hc,hc,RI (xm hc)]
  ·show vdH (vdI g)=vdH (voR g)
   unfold voR
   rw [if_pos hc,RI (xm hc)]
 ·refine .inr ⟨⟨hp,hc⟩,?_,?_⟩
  ·show PV.tup [.agg (vdK vd0 (.osl 0) (.osl 1)),.i .i64 (voC g)]=.tup [.agg (vdK (voR g) (.osl 0) (.osl 1)),.i .i64 (voC g)]
   unfold voR
   rw [if_neg hc]
  ·show vdH vd0=vdH (voR g)
   unfold voR
   rw [if_neg hc]
def vi (p:Pr):aa:=fsp (a1 (aA aGm)) (fun g=>GmQ g) (fun g=>.tup [.agg (vdR (voR g)),.i .i64 (voC g)])
theorem vm:FOk Tryz.prog 51 (vi std):=FOk.frz wA fun g=>⟨by simp [deep,eK,AH.get,vdH,vdK,vdR],by simp [PV.idIn,cP,vdK,vdR]⟩
def j7 (_:Pr):d7:=nsp (mN (a1 (aA aGm))) (fun g=>GmQ g) (fun _=>rVc) (fun g x=>x=(voR g,voC g))
theorem vw:NOk Tryz.prog 51 (j7 std):=NOk.ofF (B:=rVc) (f:=fun a:Gm=>(voR a,voC a)) vm (fun _=>rfl) (fun _=>rfl)
def qm (p:Pr):aa:=fsp (ac (aA aGm) (a1 aI)) (fun (g,n)=>StC g) (fun (g,n)=>.tup [.agg (gmR (chR g n)),.agg (vdR (chD g n)),.i .i64 (chC g n)])
theorem qF:FOk Tryz.prog 50 (qm std):=FOk.frz rC fun ⟨g,n⟩=>⟨by simp [deep,eK,AH.get,qY,fe,gmK,gmR,vdK,vdR,chD],by simp [PV.idIn,cP,gmK,gmR,vdK,vdR]⟩
def fU (_:Pr):d7:=nsp (mN (ac (aA aGm) (a1 aI))) (fun (g,n)=>StC g) (fun _=>rCh) (fun (g,n) x=>x=(chR g n,chD g n,chC g n))
theorem qy:NOk Tryz.prog 50 (fU std):=NOk.ofF (B:=rCh) (f:=fun a:Gm×Int=>(chR a.1 a.2,chD a.1 a.2,chC a.1 a.2)) qF (fun _=>rfl) (fun _=>rfl)
def qE (p:Pr):aa:=fsp (ac (aA aGm) (a1 aI)) (fun (g,n)=>ChP g) (fun (g,n)=>.tup [.agg (gmR (chR g n)),.agg (vdR (chD g n)),.i .i64 (chC g n)])
theorem qu:FOk Tryz.prog 49 (qE std):=FOk.frz rz fun ⟨g,n⟩=>⟨by simp [deep,eK,AH.get,qY,fe,gmK,gmR,vdK,vdR,chD],by simp [PV.idIn,cP,gmK,gmR,vdK,vdR]⟩
def fR (_:Pr):d7:=nsp (mN (ac (aA aGm) (a1 aI))) (fun (g,n)=>ChP g) (fun _=>rCh) (fun (g,n) x=>x=(chR g n,chD g n,chC g n))
theorem qt:NOk Tryz.prog 49 (fR std):=NOk.ofF (B:=rCh) (f:=fun a:Gm×Int=>(chR a.1 a.2,chD a.1 a.2,chC a.1 a.2)) qu (fun _=>rfl) (fun _=>rfl)
def xf (a b:Vd):Bool:=qeW a.words b.words&&(qeW a.wrong b.wrong&&(a.up==b.up&&a.pts==b.pts))
theorem KD (a:Vd):xf a a=true:=by simp [xf,GP]
def jE (p:Pr):aa:=fsp (ac (aA aVd) (a1 (aA aVd))) (fun (a,b)=>VdN a) (fun (a,b)=>.b (xf a b))
theorem uE:FOk Tryz.prog 53 (jE std):=by
 refine FOk.go (c:=cx std [(77,iZ std)] [] 0) (ae (.cons r9 .nil) .nil) mixed Tryz.func53 rfl rfl rfl (by kernel_rfl) ?_
 rintro ⟨a,b⟩ hp
 dsimp only at hp
 refine⟨rfl,?_⟩
 unfold iZ
 generalize hP:std=p,hB0:xf=B0,hB1:qeW=B1
 cbv
 repeat' first|refine fun (_:Unit)=>?_;cbv|refine aI2 (fun h=>?_) (fun h=>?_)<;>cbv|refine aI2 ?_ ?_|refine Or.inl (fun (_:Unit)=>?_);cbv
 all_goals subst hP hB0 hB1
 all_goals try exact fin
 all_goals (try simp only [lu,Fl,ED] at *)
 all_goals first
  | exact hp.a
  | exact hp.b
  | (simp_all [xf];done)
  | skip
def jnS (l:List (List UInt8)):List UInt8:=Lib.join l [32]
structure JnP (l:List (List UInt8)):Prop where
 n:(l.length:Int)≤1048576
 t : ∀k:Nat,k≤l.length→((jnS (l.take k)).length : Int)≤1048576
 w : ∀k:Int,((l.getD k.toNat []).length : Int)≤1048576
theorem V0 {l:List (List UInt8)} {k:Int} (h0:0<k) (h1:k<(l.length:Int)):jnS (l.take (k+1).toNat)=(jnS (l.take k.toNat)++[32])++l.getD k.toNat []:=by
 match l with
 | []=>simp at h1;omega
 | x::r=>
   obtain⟨m,hm⟩ : ∃m:Nat,k=m+1:=⟨(k-1).toNat,by omega⟩
   subst hm
   have h2:m<r.length:=by simp at h1;omega
   rw [show ((m:Int)+1+1).toNat =m+1+1 by omega,show ((m:Int)+1).toNat =m+1 by omega]
   unfold jnS
   rw [List.take_succ_cons,List.take_succ_cons,Lib.join_cons,Lib.join_cons,Lib.joinTail_take_succ [32] r m (r.getD m []) (by rw [List.getD_eq_getElem?_getD,List.getElem?_eq_getElem h2];rfl)]
   simp
theorem UJ {l:List (List UInt8)} (h1:0<l.length):jnS (l.take 1)=l.getD 0 []:=by
 match l with
 | []=>simp at h1
 | x::r=>exact Lib.join_one x [32]
def nL (p:Pr):aa:=fsp (a1 aW) (fun l=>JnP l) (fun l=>.s (jnS l))
theorem Bw:FOk Tryz.prog 148 (nL std):=by
 refine FOk.go (c:=cx std [] [] 0) (ae .nil .nil) mixed Tryz.func148 rfl rfl rfl (by kernel_rfl) ?_
 rintro l hp
 refine⟨rfl,?_⟩
 obtain⟨H,hH⟩ : ∃H:Hd (List UInt8×Int),H=⟨fun (o,k)=>0≤k∧k≤l.length∧o=jnS (l.take k.toNat),fun (o,k)=>(l.length-k).toNat,(· < ·)⟩:=⟨_,rfl⟩
 have hl:=hdl hH
 generalize hP:std=p,hB0:jnS=B0
 cbv
 repeat' first|refine fun (_:Unit)=>?_;cbv|refine Or.inr ⟨5,[],[.s 3 .s,.s 4 (.i .i64)],[],[],H,rfl,hl,?_,fun ((o,k):List UInt8×Int) hk=>?_⟩<;>cbv|refine aI2 (fun h=>?_) (fun h=>?_)<;>cbv|refine aI2 ?_ ?_
 all_goals subst hP hB0 hH
 all_goals clear hl
 all_goals try dsimp only at hk
 all_goals try dsimp only
 all_goals try exact fin
 ·exact⟨Int.le_refl 0,Int.natCast_nonneg _,rfl⟩
 all_goals obtain⟨k0,k1,rfl⟩:=hk
 all_goals have k1:k≤((List.length (α:=List UInt8) l:Nat):Int):=k1
 all_goals have h5:=hp.t k.toNat (by omega)
 all_goals have h6:=hp.w k
 all_goals have h7:=hp.n
 all_goals try (have hlt:k<(l.length:Int):=ah ‹_›)
 ·exact an (by show _≤((jnS (l.take k.toNat)).length : Int)+1∧((jnS (l.take k.toNat)).length : Int)+1≤_;omega)
 ·exact an (by
   show _≤((jnS (l.take k.toNat)++[32]).length : Int)+((l.getD k.toNat []).length : Int)∧((jnS (l.take k.toNat)++[32]).length : Int)+((l.getD k.toNat []).length : Int)≤_
   rw [List.length_append,List.length_singleton];omega)
 ·exact an (by show _≤k+1∧k+1≤_;omega)
 ·exact⟨by show 0≤k+1;omega,by show k+1≤(l.length:Int);omega,(V0 (ah ‹_›) hlt).symm⟩
 ·exact an (by show _≤((jnS (l.take k.toNat)).length : Int)+((l.getD k.toNat []).length : Int)∧((jnS (l.take k.toNat)).length : Int)+((l.getD k.toNat []).length : Int)≤_;omega)
 ·have hz:k≤0:=ao ‹_›
  have hk0:k=0:=by omega
  subst hk0
  exact⟨by show (0:Int)≤0+1;omega,by show (0:Int)+1≤(l.length:Int);omega,(UJ (l:=l) (by omega)).symm⟩
 ·have hge:(l.length:Int)≤k:=ao ‹_›
  rw [List.take_of_length_le (by omega)]
end Ax
end Go.Proofs.YtjjonmhpgkahoaaGreatDoor
