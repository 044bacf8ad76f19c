/-
  The plain walker: calls with a bounded result that has rows of its own (new ones, or what was given).
  Conditions: none.
-/
import Derived.Test.YtjjonmhpgkahoaaGreatDoorE11
set_option linter.unusedSimpArgs false
set_option linter.unusedVariables false
namespace Go.Proofs.YtjjonmhpgkahoaaGreatDoor
namespace Ax
def goneB:Option Ob→Bool
 | some .gone =>true
 | _=>false
def noGone:AH→AH
 | []=>[]
 | (_,.gone)::r=>noGone r
 | q::r=>q::noGone r
def retEP (n0:Nat) (h:AH) (l:List PV) (ids:List Nat) (v:PV) (E:AH) (ρ:List Nat) (r:Prop):Prop:=
 ((nodupB ids&&ids.all fun a=>!Nat.blt a n0||goneB (E.get a))&&((E.all fun q=>Nat.blt q.1 ρ.length&&q.2.idIn (List.range ρ.length)&&(!goneB (some q.2)||Nat.blt q.1 n0))&&(full E ρ.length&&v.idIn (List.range ρ.length))))=true∧obs ρ h (noGone E) (sameV (tupOf l) (v.rn (look ρ))∧r)
def retE {β:Type} (c:Cx) (rs:List ResultVar) (B:NRes β) (Q:β→Prop):AEx→AS→Prop
 | .exit _,_=>False
 | _,st=>match resL c st rs with
   | some l=>match B.rd (oldH st.h st.h c.n0) (nrmL (deeps st.h 12 l)) with
     | some x=>retEP c.n0 st.h l (idsL l) (B.v x) (B.eh x) (List.range c.n0++idsL l) (Q x)
     | none=>False
   | none=>False
theorem noGone_mem {k:Nat} {o:Ob} : ∀{E:AH},(k,o)∈E→goneB (some o)=false→(k,o)∈noGone E
 | [],h,_=>by simp at h
 | (j,x)::r,h,hg=>by
   rcases List.mem_cons.1 h with h | h
   ·cases h
    cases o<;>first | (simp [goneB] at hg;done) | (unfold noGone;exact List.mem_cons_self ..)
   ·have ih:=noGone_mem h hg
    cases x<;>unfold noGone<;>first | exact ih | exact List.mem_cons_of_mem _ ih
section
variable {P:Program} {c:Cx} {f:FuncId} {fn:Func} {body:Code} {α β:Type}
theorem NOk.goE {A:MArgs α} {pre:α→Prop} {B:α→NRes β} {Q:α→β→Prop} (hc:CxOk P c) (hm:P.follows .mixedOrders =true) (hf:P.funcs[f]? =some fn) (hb:fn.body=some body) (hn:(fn.name=="runtime.NumGoroutine")=false) (hck:codeOk body=true)
 (h : ∀a,pre a→Nat.beq c.n0 (A.eh a).length =true∧awp c body (retE c fn.results.toList (B a) (Q a)) ⟨A.ea a++List.replicate (fn.ntmps-(A.ea a).length) .dead,A.eh a,(A.eh a).length⟩):NOk P f (nsp A pre B Q):=by
 refine⟨⟨fn,hf,hn,by rw [hb];rfl⟩,fun H args out hs hp w e vals hz hob hon hlv hbd hdis hl=>?_⟩
 unfold nsp at hs
 split at hs
 ·rename_i a ha
  cases hs
  obtain⟨rfl,rfl⟩:=A.ok _ _ _ ha
  obtain⟨h1,h2⟩:=h a (hp _ (by simp))
  have hn0:=Nat.eq_of_beq_eq_true h1
  refine run_awpG hc hm hf hb hck hn0 hz hob hon hlv hbd hdis hl (fun _ _ h=>h) (fun ex st e1 a' w' hq hs'=>?_) h2
  have hq:retE c fn.results.toList (B a) (Q a) .ret st:=by cases ex<;>first | exact hq | exact hq.elim
  generalize (A.eh a).length =n0 at hn0 hon hlv hs'
  unfold retE at hq
  simp only [hn0] at hq
  split at hq
  ·rename_i l hlr
   split at hq
   ·rename_i x hx
    obtain⟨v,hv1,hv2⟩:=results_run hc hs' hlr
    unfold retEP at hq
    obtain⟨hck1,hobs⟩:=hq
    generalize idsL l=ids at hck1 hobs
    obtain⟨ρ,hρ⟩ : ∃ρ,ρ=List.range n0++ids:=⟨_,rfl⟩
    rw [←hρ] at hck1 hobs
    have hlen:ρ.length=n0+ids.length:=by rw [hρ,List.length_append,List.length_range]
    have hlow : ∀k,k<n0→look ρ k=k:=fun k hk=>by
     unfold look
     rw [hρ,List.getD_eq_getElem?_getD,List.getElem?_append_left (by simpa using hk),List.getElem?_range hk];rfl
    have hhi : ∀k,n0≤k→look ρ k=look ids (k-n0):=fun k hk=>by
     unfold look
     rw [hρ,List.getD_eq_getElem?_getD,List.getElem?_append_right (by simpa using hk),List.length_range,←List.getD_eq_getElem?_getD]
    simp only [Bool.and_eq_true,List.all_eq_true,Nat.blt_eq] at hck1
    obtain⟨⟨hnd,hmv⟩,hob1,hfull,hvin⟩:=hck1
    obtain⟨⟨hsame,hQ⟩,hob2⟩:=obs_mem hobs
    unfold full at hfull
    rw [List.all_eq_true] at hfull
    have hfull : ∀k,k<ρ.length→(((B a).eh x).get k).isSome =true:=fun k hk=>hfull k (List.mem_range.2 hk)
    have hroot : ∀k,e.on k→e1.on k∧e1.adr k=e.adr k∧e1.cap k=e.cap k∧e1.len k=e.len k:=fun k hk=>hs'.root k ((hon k).1 hk) hk
    have hst : ∀k,e.on k→k<ρ.length∧look ρ k=k:=fun k hk=>⟨by have:=(hon k).1 hk;omega,hlow k ((hon k).1 hk)⟩
    have hidx : ∀k,n0≤k→k<ρ.length→look ρ k∈ids∧k-n0<ids.length:=fun k hk hk2=>by
     have h3:k-n0<ids.length:=by omega
     refine⟨?_,h3⟩
     rw [hhi k hk]
     unfold look
     rw [List.getD_eq_getElem?_getD,List.getElem?_eq_getElem h3]
     exact List.getElem_mem h3
    obtain⟨e2,he2⟩ : ∃e2:Env,e2={ e1.rn (look ρ) ρ.length with lv:=fun k=>(k<ρ.length∧e1.lv (look ρ k))∧goneB (((B a).eh x).get k)=false }:=⟨_,rfl⟩
    have hElv : ∀k,e2.lv k↔(k<ρ.length∧e1.lv (look ρ k))∧goneB (((B a).eh x).get k)=false:=fun k=>by rw [he2]
    have hEon : ∀k,e2.on k↔k<ρ.length∧e1.on (look ρ k):=fun k=>by rw [he2];exact Iff.rfl
    have hEadr : ∀k,e2.adr k=e1.adr (look ρ k):=fun k=>by rw [he2];rfl
    have hEblk : ∀k b,e2.blk k b↔e1.blk (look ρ k) b:=fun k b=>by unfold Env.blk;rw [hEadr]
    have hrn:Rn (look ρ) (List.range ρ.length) e1 e2:=by
     subst he2
     exact⟨fun _ hk h=>⟨List.mem_range.1 hk,h⟩,fun _=>rfl,fun _=>rfl,fun _=>rfl,rfl⟩
    have hEfz:e2.fz=e1.fz:=by rw [he2];rfl
    refine⟨hs'.defers,v,hv1,x,hQ,v,e2,rfl,?_,?_,⟨fun b hb=>hs'.ez.sup b (by rw [←hEfz];exact hb),fun k b hk _ hb hf=>absurd (show e1.fz b by rw [←hEfz];exact hf) (hs'.ez.nf (look ρ k) b ((hElv k).1 hk).1.2 ((hEblk k b).1 hb))⟩,?_,?_,?_,?_,?_,?_⟩
    ·exact R_rn hrn _ _ hvin (same_R _ _ _ hsame hv2)
    ·refine⟨fun k hk=>(hEon k).2 ⟨(hst k hk).1,by rw [(hst k hk).2];exact (hroot k hk).1⟩,fun k hk=>?_,fun k hk=>?_,fun k hk=>?_,fun b hb=>by rw [hEfz];exact hs'.ez.sub b hb⟩
     ·rw [hEadr,(hst k hk).2];exact (hroot k hk).2.1
     ·rw [he2];show e1.cap (look ρ k)=_;rw [(hst k hk).2];exact (hroot k hk).2.2.1
     ·rw [he2];show e1.len (look ρ k)=_;rw [(hst k hk).2];exact (hroot k hk).2.2.2
    ·intro k o hk
     have hmem:=get_mem hk
     obtain⟨⟨h4,h5⟩,h6⟩:=hob1 _ hmem
     cases hg:goneB (some o) with
     | true=>
       have ho:o=.gone :=by cases o<;>first | rfl | (simp [goneB] at hg)
       subst ho
       have hk0:k<n0:=by simpa [goneB] using h6
       refine⟨by unfold OR;trivial,(hEon k).2 ⟨h4,by rw [hlow k hk0];exact (hroot k ((hon k).2 hk0)).1⟩,fun hh=>by cases hh⟩
     | false=>
       obtain⟨y,hy,hyo⟩:=hob2 _ (noGone_mem hmem hg)
       obtain⟨g6,g7,g8⟩:=hs'.ob _ _ hy
       exact⟨OR_rn hrn h5 (same_O hyo g6),(hEon k).2 ⟨h4,g7⟩,fun hgn=>(hElv k).2 ⟨⟨h4,g8 (by rw [same_gn hyo,rnO_gn];exact hgn)⟩,by rw [hk];exact hg⟩⟩
    ·intro k hk
     by_cases hkH:k<n0
     ·exact .inl ((hon k).2 hkH)
     ·exact .inr ⟨Nat.le_of_not_lt hkH,hfull k ((hEon k).1 hk).1⟩
    ·intro k hk
     obtain⟨⟨hk1,hk2⟩,hk3⟩:=(hElv k).1 hk
     by_cases hkH:k<n0
     ·exact .inl ((hlv k).2 hkH)
     ·refine .inr ⟨fun h=>hkH ((hon k).1 h),(hEon k).2 ⟨hk1,hs'.lo _ hk2⟩,fun b hb=>?_⟩
      have hb:=(hEblk k b).1 hb
      refine⟨(hs'.bd (look ρ k) b hk2 hb).2,?_⟩
      rcases (hs'.bd (look ρ k) b hk2 hb).1 with h | h
      ·exact .inl h
      ·refine .inr ?_
       obtain⟨j,hj,y,hy,hyb⟩:=h
       obtain⟨q1,q2, -, -⟩:=hroot j hj
       have hj0:=(hon j).1 hj
       refine⟨j,(hlv j).2 hj0,fun hjl=>?_,y,hy,hyb⟩
       obtain⟨⟨-,hjl⟩,hjg⟩:=(hElv j).1 hjl
       rw [(hst j hj).2] at hjl
       have h3:=hs'.dis (look ρ k) j b hk2 hjl hb ⟨y,by rw [q2];exact hy,hyb⟩
       have h4:=(hidx k (Nat.le_of_not_lt hkH) hk1).1
       rw [h3] at h4
       have h5:=hmv j h4
       rw [hjg,show Nat.blt j n0=true from by rw [Nat.blt_eq];exact hj0] at h5
       cases h5
    ·intro k hk
     have hk0:=(hlv k).1 hk
     have hkr:k<ρ.length:=by omega
     obtain⟨o,ho⟩:=Option.isSome_iff_exists.1 (hfull k hkr)
     cases hg:goneB (some o) with
     | true=>cases o with
       | gone=>exact .inr ho
       | _=>simp [goneB] at hg
     | false=>
       obtain⟨y,hy,hyo⟩:=hob2 _ (noGone_mem (get_mem ho) hg)
       cases hgn:o.gn with
       | true=>cases o with
         | gone=>exact .inr ho
         | _=>cases hgn
       | false=>exact .inl ((hElv k).2 ⟨⟨hkr,(hs'.ob _ _ hy).2.2 (by rw [same_gn hyo,rnO_gn];exact hgn)⟩,by rw [ho];exact hg⟩)
    ·intro k k' b hk hk0 hk' hk0' hb hb'
     obtain⟨⟨g1,g2⟩, -⟩:=(hElv k).1 hk
     obtain⟨⟨g3,g4⟩, -⟩:=(hElv k').1 hk'
     have a1:n0≤k:=Nat.le_of_not_lt fun h=>hk0 ((hlv k).2 h)
     have a2:n0≤k':=Nat.le_of_not_lt fun h=>hk0' ((hlv k').2 h)
     have h3:=hs'.dis _ _ b g2 g4 ((hEblk k b).1 hb) ((hEblk k' b).1 hb')
     rw [hhi k a1,hhi k' a2] at h3
     have:=look_inj hnd (hidx k a1 g1).2 (hidx k' a2 g3).2 h3
     omega
    ·refine⟨hs'.low.os,hs'.low.tape,hs'.low.output,hs'.low.size,fun b hb hnM=>hs'.low.block b hb fun ⟨k,hk,hkb⟩=>hnM ⟨k,(hlv k).2 ((hon k).1 hk),hfull k (hst k hk).1,hkb⟩⟩
   ·exact hq.elim
  ·exact hq.elim
 ·cases hs
end
end Ax
end Go.Proofs.YtjjonmhpgkahoaaGreatDoor
