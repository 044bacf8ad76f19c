/-
  Plain laws: small letters of strings, letters on a board, words of a lexicon, first places of bytes.
  Conditions: none.
-/
import Derived.Test.YtjjonmhpgkahoaaGreatDoorH09
import Derived.Shelf.Strings.CaseAny
import Derived.Lib.Builder
import Derived.Shelf.Spec.SearchS
import Derived.Lib.Replace
import Derived.Lib.SplitLaws
import Derived.Test.YtjjonmhpgkahoaaGreatDoorH11
set_option linter.unusedSimpArgs false
set_option linter.unusedVariables false
namespace Go.Proofs.YtjjonmhpgkahoaaGreatDoor
open Go.RowKit
set_option maxRecDepth 100000
def jn (s:Str):Bool:=s.all fun c=>decide (c.toNat<128)
theorem If (c:UInt8):aZ (t8 c)=(aZ c||kw c):=by
 unfold t8
 cases hc:kw c
 ·simp
 ·unfold kw at hc
  simp only [Bool.and_eq_true,decide_eq_true_eq] at hc
  simp only [if_true,Bool.or_true]
  unfold aZ
  have h1:(c+32).toNat =c.toNat+32:=by
   rw [UInt8.toNat_add]
   have : (32:UInt8).toNat =32:=rfl
   omega
  simp only [Bool.and_eq_true,decide_eq_true_eq]
  omega
theorem JC (s:Str):bT (nu s)=cE s:=by
 unfold bT cE nu
 rw [List.length_map,List.all_map]
 have : (s.all (aZ ∘ t8))=s.all (fun c=>aZ c||kw c):=by
  congr 1;funext c;exact If c
 rw [this]
theorem sb (l:Str):Lib.toLowerA l=nu l:=by
 unfold Lib.toLowerA nu
 refine List.map_congr_left fun c _=>?_
 have h:Lib.isUpperB c=kw c:=by
  unfold Lib.isUpperB kw
  rw [Bool.eq_iff_iff]
  simp [UInt8.le_iff_toNat_le]
  omega
 unfold Lib.lowerB t8
 rw [h]
theorem lS {s:Str} (h:ei s=true):jn s=true:=by
 refine List.all_eq_true.2 fun c hc=>?_
 have:=List.all_eq_true.1 h c hc
 unfold aZ kw at this
 simp only [Bool.or_eq_true,Bool.and_eq_true,decide_eq_true_eq] at this ⊢
 omega
theorem IH {x:Int} (h:(Lib.encodeRune x).all aZ=true):(Lib.encodeRune x).length =1:=by
 unfold Lib.encodeRune Lib.encodeRuneZ at h ⊢
 have big : ∀z:Int,192≤z→z≤255→aZ z.toNat.toUInt8=false:=fun z h0 h1=>by
  have e:z.toNat.toUInt8.toNat=z.toNat:=by
   rw [Nat.toUInt8_eq,UInt8.toNat_ofNat']
   omega
  unfold aZ
  rw [e,Bool.and_eq_false_iff]
  right
  simp only [decide_eq_false_iff_not]
  omega
 split at h
 ·rename_i h0;rw [if_pos h0];rfl
 ·rename_i h0
  split at h
  ·rename_i h1
   rw [List.map_cons,List.all_cons,big _ (by omega) (by omega)] at h
   cases h
  ·rename_i h1
   split at h
   ·rename_i h2
    rw [List.map_cons,List.all_cons,big _ (by omega) (by omega)] at h
    cases h
   ·rename_i h2
    split at h
    ·rename_i h3
     rw [List.map_cons,List.all_cons,big _ (by omega) (by omega)] at h
     cases h
    ·rw [List.map_cons,List.all_cons,big _ (by omega) (by omega)] at h
     cases h
theorem LK {b:UInt8} {t:Str} (h:128≤b.toNat):2≤(Lib.decodeL (b::t)).2∨(Lib.decodeL (b::t)).1=65533:=by
 unfold Lib.decodeL Utf8.decode
 have h0 : ¬((ByteArray.mk (b::t).toArray).get! (0+0)).toNat < 128:=by
  show ¬b.toNat<128
  omega
 simp only [if_neg h0]
 split
 ·split
  ·left;exact Nat.le_refl _
  ·right;rfl
 ·split
  ·split
   ·left;exact Nat.le_succ _
   ·right;rfl
  ·split
   ·split
    ·left;show 2≤4;omega
    ·right;rfl
   ·right;rfl
theorem PR (b:UInt8) (t:Str):(Lib.decodeL (b::t)).2≤(b::t).length :=by
 have hz:(ByteArray.mk (b::t).toArray).size =(b::t).length :=by simp [ByteArray.size]
 have h1:1≤(b::t).length :=by simp
 unfold Lib.decodeL Utf8.decode
 simp only
 split
 ·exact h1
 ·split
  ·rename_i h
   simp only [Bool.and_eq_true,decide_eq_true_eq] at h
   split
   ·show 2≤_;omega
   ·exact h1
  ·split
   ·rename_i h
    simp only [Bool.and_eq_true,decide_eq_true_eq] at h
    split
    ·show 3≤_;omega
    ·exact h1
   ·split
    ·rename_i h
     simp only [Bool.and_eq_true,decide_eq_true_eq] at h
     split
     ·show 4≤_;omega
     ·exact h1
    ·exact h1
theorem L1:Lib.toLowerU 65533=65533:=by decide +kernel
theorem FW : ∀(n:Nat) (l:Str),l.length≤n→(Lib.toLowerD l).all aZ=true→(Lib.toLowerD l).length ≤l.length∧((Lib.toLowerD l).length =l.length→jn l=true)
 | _,[],_,_=>⟨Nat.le_refl _,fun _=>rfl⟩
 | 0,_::_,hn,_=>by simp at hn
 | n+1,b::t,hn,h=>by
   have hw:=Lib.decodeL_width (b::t)
   have hw2:=PR b t
   have hs:=Lib.mapD_step Lib.toLowerU (b::t) (by simp)
   have hrec:=fun k (hk:1≤k)=>FW n ((b::t).drop k) (by rw [List.length_drop,List.length_cons];rw [List.length_cons] at hn;omega)
   unfold Lib.toLowerD at h hrec ⊢
   rw [hs,List.all_append,Bool.and_eq_true] at h
   rw [hs,List.length_append]
   obtain⟨h1,h2⟩:=h
   obtain⟨r1,r2⟩:=hrec _ hw h2
   have e1:(if 0≤Lib.toLowerU ((Lib.decodeL (b::t)).1:Int) then Lib.encodeRune (Lib.toLowerU ((Lib.decodeL (b::t)).1:Int)) else []).length ≤1:=by
    split
    ·rename_i h0
     rw [if_pos h0] at h1
     exact Nat.le_of_eq (IH h1)
    ·exact Nat.zero_le _
   rw [List.length_drop] at r1 r2
   refine⟨by rw [List.length_cons] at r1 hw2 ⊢;omega,fun e=>?_⟩
   have hd1:(Lib.decodeL (b::t)).2=1:=by rw [List.length_cons] at r1 e hw2;omega
   have ha:=r2 (by rw [List.length_cons] at r1 e ⊢;omega)
   rw [hd1,List.drop_succ_cons,List.drop_zero] at ha
   have hb:b.toNat<128:=by
    refine Classical.byContradiction fun hb=>?_
    rcases LK (t:=t) (show 128≤b.toNat by omega) with h3 | h3
    ·omega
    ·rw [h3] at h1
     have e3:Lib.toLowerU ((65533:Nat):Int)=65533:=L1
     rw [e3,if_pos (by decide)] at h1
     exact absurd h1 (by decide)
   unfold jn at ha ⊢
   rw [List.all_cons,ha,decide_eq_true hb]
   rfl
theorem wZ (s:Str):(bT (Lib.toLowerD s)&&decide (s.length=(Lib.toLowerD s).length))=cE s:=by
 by_cases ha:jn s=true
 ·have e:Lib.toLowerD s=nu s:=by
   rw [Lib.toLowerD_ascii _ (fun b hb=>by simpa using List.all_eq_true.1 ha b hb)]
   exact sb s
  rw [e,JC]
  have : (nu s).length =s.length:=by simp [nu]
  rw [this,decide_eq_true rfl,Bool.and_true]
 ·have h1:(bT (Lib.toLowerD s)&&decide (s.length=(Lib.toLowerD s).length))=false:=by
   rw [Bool.eq_false_iff]
   intro h
   rw [Bool.and_eq_true,decide_eq_true_eq] at h
   have h2:=h.1
   unfold bT at h2
   rw [Bool.and_eq_true] at h2
   exact ha ((FW _ s (Nat.le_refl _) h2.1).2 h.2.symm)
  have h2:cE s=false:=by
   rw [Bool.eq_false_iff]
   intro h
   unfold cE at h
   rw [Bool.and_eq_true] at h
   exact ha (lS h.1)
  rw [h1,h2]
theorem Mz (x:Int):(Lib.encodeRune x).length ≤4:=by
 unfold Lib.encodeRune Lib.encodeRuneZ
 rw [List.length_map]
 split
 ·simp
 ·split
  ·simp
  ·split
   ·simp
   ·split<;>simp
theorem Pq : ∀(n:Nat) (l:Str),l.length≤n→(Lib.toLowerD l).length ≤4*l.length
 | _,[],_=>Nat.le_refl _
 | 0,_::_,hn=>by simp at hn
 | n+1,b::t,hn=>by
   have hw:=Lib.decodeL_width (b::t)
   have hs:=Lib.mapD_step Lib.toLowerU (b::t) (by simp)
   have hrec:=Pq n ((b::t).drop (Lib.decodeL (b::t)).2) (by rw [List.length_drop,List.length_cons];rw [List.length_cons] at hn;omega)
   unfold Lib.toLowerD at hrec ⊢
   rw [hs,List.length_append]
   rw [List.length_drop] at hrec
   have e1:(if 0≤Lib.toLowerU ((Lib.decodeL (b::t)).1:Int) then Lib.encodeRune (Lib.toLowerU ((Lib.decodeL (b::t)).1:Int)) else []).length ≤4:=by
    split
    ·exact Mz _
    ·exact Nat.zero_le _
   rw [List.length_cons] at hrec ⊢
   omega
theorem mb : ∀(x y:List UInt8),Op.bytesLess x y=decide (x<y)
 | [],[]=>by simp [Op.bytesLess]
 | _::_,[]=>by simp [Op.bytesLess]
 | [],_::_=>by simp [Op.bytesLess]
 | a::x,b::y=>by
   rw [Op.bytesLess,mb x y]
   simp only [List.cons_lt_cons_iff]
   by_cases h1:a<b<;>by_cases h2:a=b<;>by_cases h3:x<y<;>simp [h1,h2,h3]
theorem Mk (a b:Str):sLt a b=true↔a<b:=by rw [sLt,mb];exact decide_eq_true_iff
theorem QB (a b:Str):sLt a b=false↔b≤a:=by rw [sLt,mb,decide_eq_false_iff_not,List.not_lt]
def mR:List Str→Bool
 | []=>true
 | [_]=>true
 | a::b::r=>sLt a b&&mR (b::r)
theorem Ak : ∀(ws:List Str) (s:Str),cM ws s≤ws.length
 | [],_=>Nat.le_refl _
 | x::r,s=>by
   rw [cM]
   have:=Ak r s
   split<;>simp<;>omega
theorem GO : ∀ws:List Str,mR ws=true→ws.Pairwise (fun a b=>a<b)
 | [],_=>.nil
 | [_],_=>by simp
 | a::b::r,h=>by
   rw [mR,Bool.and_eq_true] at h
   have ih:=GO (b::r) h.2
   have hab:=(Mk a b).1 h.1
   refine .cons (fun x hx=>?_) ih
   rcases List.mem_cons.1 hx with rfl | hx
   ·exact hab
   ·exact List.lt_trans hab ((List.pairwise_cons.1 ih).1 x hx)
theorem zy : ∀(ws:List Str) (s:Str) (t:Nat),t<cM ws s→sLt (ws.getD t []) s=true
 | [],_,t,h=>absurd h (Nat.not_lt_zero t)
 | x::r,s,t,h=>by
   rw [cM] at h
   cases hx:sLt x s<;>rw [hx] at h
   ·simp at h
   ·cases t with
    | zero=>simpa using hx
    | succ t=>simpa using zy r s t (by simp at h;omega)
theorem zW : ∀(ws:List Str) (s:Str),ws.Pairwise (fun a b=>a<b)→∀t,cM ws s≤t→t<ws.length→sLt (ws.getD t []) s=false
 | [],_,_,t,_,h=>absurd h (Nat.not_lt_zero t)
 | x::r,s,hp,t,h,hl=>by
   rw [cM] at h
   cases hx:sLt x s<;>rw [hx] at h
   ·cases t with
    | zero=>simpa using hx
    | succ t=>
      have hm:r.getD t []∈r:=by
       have h2:t<r.length:=by simpa using hl
       rw [List.getD_eq_getElem?_getD,List.getElem?_eq_getElem h2];exact List.getElem_mem h2
      have:=(List.pairwise_cons.1 hp).1 _ hm
      simp only [List.getD_cons_succ]
      rw [QB] at hx ⊢
      exact List.le_of_lt (List.lt_of_le_of_lt hx this)
   ·cases t with
    | zero=>simp at h
    | succ t=>simpa using zW r s (List.pairwise_cons.1 hp).2 t (by simp at h;omega) (by simpa using hl)
theorem MH (ws:List Str) (s:Str) (hi:mR ws=true) :
 Lib.bsGo (fun t=>sLt (ws.getD t []) s) ws.length 0 ws.length=cM ws s:=by
 have hg : ∀f lo hi,hi≤ws.length→Lib.bsGo (fun t=>sLt (ws.getD t []) s) f lo hi=Lib.bsGo (fun t=>decide (t<cM ws s)) f lo hi:=by
  intro f
  induction f with
  | zero=>intros;rfl
  | succ f ih=>
    intro lo hi hle
    unfold Lib.bsGo
    by_cases h:lo<hi
    ·rw [if_pos h,if_pos h]
     have he:sLt (ws.getD ((lo+hi)/2) []) s=decide ((lo+hi)/2<cM ws s):=by
      by_cases hk:(lo+hi)/2<cM ws s
      ·rw [zy _ _ _ hk,decide_eq_true hk]
      ·rw [zW _ _ (GO ws ‹_›) _ (by omega) (by omega),decide_eq_false hk]
     simp only [he]
     rw [ih _ _ hle,ih _ _ (by omega)]
    ·rw [if_neg h,if_neg h]
 rw [hg _ _ _ (Nat.le_refl _)]
 exact Lib.bsGo_spec _ (cM ws s) (fun t h=>by simpa using h) (fun t h=>by simpa using h) _ _ _ (by omega) (by omega) (Ak ws s)
theorem se : ∀s:Str,Lib.replaceK [46] [] (Lib.count s [46]) s=s.filter fun c=>!(c==46)
 | []=>rfl
 | c::l=>by
   have ih:=se l
   by_cases hc:c=46
   ·subst hc
    rw [Lib.count_cons_eq,Nat.add_comm,Lib.replaceK_hit [46] [] _ _ 0 (by rfl)]
    simpa using ih
   ·have hf:(c::l).filter (fun c=>!(c==46))=c::l.filter (fun c=>!(c==46)):=List.filter_cons_of_pos (by simpa using hc)
    rw [Lib.count_cons_ne c 46 l hc,hf]
    cases hk:Lib.count l [46] with
    | zero=>
      rw [hk] at ih
      show c::l=_
      rw [←ih];rfl
    | succ k=>
      rw [hk] at ih
      obtain⟨i,hi⟩:=Lib.index_of_count (s:=l) (old:=[46]) (by omega)
      rw [Lib.replaceK_hit [46] [] k l i hi] at ih
      have hi2:Lib.index (c::l) [46]=((i+1:Nat):Int):=by
       rw [Lib.index]
       have hp:([46]:Str).isPrefixOf (c::l)=false:=by
        simp [List.isPrefixOf]
        exact fun h=>hc h.symm
       rw [hp,hi]
       have : ((i:Int)== -1)=false:=by rw [beq_eq_false_iff_ne];omega
       rw [this];simp
      rw [Lib.replaceK_hit [46] [] k (c::l) (i+1) hi2,←ih]
      simp
theorem vx (s:Str):Lib.replaceAll s [46] []=s.filter fun c=>!(c==46):=by
 unfold Lib.replaceAll Lib.replace
 rw [if_neg (by decide)]
 have : Lib.replaceNum s [46] (-1)=Lib.count s [46]:=by unfold Lib.replaceNum;rw [if_pos (.inl (by decide))]
 rw [this,se]
theorem oW : ∀(s:Str) (c:UInt8),Lib.indexByte s c=if jP s c<s.length then (jP s c:Int) else -1
 | [],_=>by simp [Lib.indexByte,jP]
 | b::l,c=>by
   have ih:=oW l c
   simp only [Lib.indexByte,jP,List.length_cons]
   by_cases h:(b==c)=true
   ·simp [h]
   ·simp only [if_neg h,ih]
    by_cases h2:jP l c<l.length
    ·have : ((jP l c:Int)== -1)=false:=by simp
     rw [if_pos h2,if_pos (show jP l c+1<l.length+1 by omega),this]
     simp
    ·rw [if_neg h2,if_neg (show ¬jP l c+1<l.length+1 by omega)]
     rfl
end Go.Proofs.YtjjonmhpgkahoaaGreatDoor
namespace Go.Proofs.YtjjonmhpgkahoaaGreatDoor
namespace Ax
set_option maxRecDepth 100000
def dS:List UInt8→List UInt8→List (List UInt8)
 | _,[]=>[[]]
 | p,c::r=>(if takeB p [63] then (dS (bR p [63]) r).map (fun x=>(c-97+65)::x) else [])++(if takeB p [c] then (dS (bR p [c]) r).map (fun x=>c::x) else [])
theorem Km (c:UInt8) : ∀a:List UInt8,bb a [c]=if c∈a then (a.erase c,[]) else (a,[c])
 | []=>rfl
 | x::a=>by
   by_cases h:c=x
   ·subst h
    rw [F8,if_pos (List.mem_cons_self ..),List.erase_cons_head]
    have:=kW a
    refine Prod.ext ?_ this
    show (bb a []).1=a
    induction a with
    | nil=>rfl
    | cons y a ih=>rw [take_nil];show y::(bb a []).1=y::a;rw [ih (kW a)]
   ·rw [GX h,Km c a]
    by_cases h2:c∈a
    ·rw [if_pos h2,if_pos (List.mem_cons_of_mem _ h2),List.erase_cons_tail (by simpa using Ne.symm h)]
    ·rw [if_neg h2,if_neg (by simp [h,h2])]
theorem xa (a:List UInt8) (c:UInt8):takeB a [c]=decide (c∈a):=by
 unfold takeB
 rw [Km]
 split<;>rename_i h
 ·rw [decide_eq_true h];rfl
 ·rw [decide_eq_false h];rfl
theorem ug (a:List UInt8) (c:UInt8):bR a [c]=a.erase c:=by
 unfold bR
 rw [Km]
 split<;>rename_i h
 ·rfl
 ·rw [List.erase_of_not_mem h]
def lq:List UInt8→List UInt8→Nat
 | _,[]=>0
 | l,c::r=>if takeB l [c] then lq (bR l [c]) r else lq l r+1
def vX (s:List UInt8):Nat:=s.count 63
def mkB (p w:List UInt8):Bool:=decide (lq p w≤vX p)
theorem rp : ∀(r p:List UInt8),(63:UInt8) ∉ r→lq (p.erase 63) r=lq p r
 | [],_,_=>rfl
 | c::r,p,h=>by
   have hc:c≠63:=fun e=>h (e ▸ List.mem_cons_self ..)
   have hr:(63:UInt8) ∉ r:=fun e=>h (List.mem_cons_of_mem _ e)
   have hm:(c∈p.erase 63)=(c∈p):=by rw [eq_iff_iff];exact List.mem_erase_of_ne hc
   rw [lq,lq,xa,xa,ug,ug]
   by_cases h2:c∈p
   ·rw [decide_eq_true h2,decide_eq_true (hm ▸ h2),if_pos rfl,if_pos rfl,List.erase_comm,rp r _ hr]
   ·rw [decide_eq_false h2,decide_eq_false (hm ▸ h2),if_neg (by decide),if_neg (by decide),rp r _ hr]
theorem uH : ∀(r p:List UInt8),(63:UInt8) ∉ r→lq p r≤vX p→dS p r≠[]
 | [],_,_,_=>by rw [dS];exact List.cons_ne_nil _ _
 | c::r,p,h,hn=>by
   have hc:c≠63:=fun e=>h (e ▸ List.mem_cons_self ..)
   have hr:(63:UInt8) ∉ r:=fun e=>h (List.mem_cons_of_mem _ e)
   rw [lq,xa,ug] at hn
   rw [dS,xa,ug,xa,ug]
   by_cases h2:c∈p
   ·rw [decide_eq_true h2,if_pos rfl] at hn
    have h3:vX (p.erase c)=vX p:=by unfold vX;exact List.count_erase_of_ne (Ne.symm hc)
    have ih:=uH r (p.erase c) hr (by rw [h3];exact hn)
    rw [decide_eq_true h2]
    intro e
    have e2:=(List.append_eq_nil_iff.1 e).2
    simp only [if_true,List.map_eq_nil_iff] at e2
    exact ih e2
   ·rw [decide_eq_false h2,if_neg (by decide)] at hn
    have h4:(63:UInt8)∈p:=by
     refine List.count_pos_iff.1 ?_
     unfold vX at hn
     omega
    have h3:vX (p.erase 63)=vX p-1:=by unfold vX;rw [List.count_erase_self]
    have ih:=uH r (p.erase 63) hr (by rw [h3,rp r p hr];omega)
    rw [decide_eq_true h4]
    intro e
    have e2:=(List.append_eq_nil_iff.1 e).1
    simp only [if_true,List.map_eq_nil_iff] at e2
    exact ih e2
theorem xd : ∀(r p:List UInt8),(dS p r).length ≤2 ^ r.length
 | [],_=>by rw [dS];exact Nat.le_refl _
 | c::r,p=>by
   have h1:=xd r (bR p [63])
   have h2:=xd r (bR p [c])
   rw [dS,List.length_append,List.length_cons,Nat.pow_succ]
   have e1:(if takeB p [63] then (dS (bR p [63]) r).map (fun x=>(c-97+65)::x) else []).length ≤2 ^ r.length:=by
    split
    ·rw [List.length_map];exact h1
    ·exact Nat.zero_le _
   have e2:(if takeB p [c] then (dS (bR p [c]) r).map (fun x=>c::x) else []).length ≤2 ^ r.length:=by
    split
    ·rw [List.length_map];exact h2
    ·exact Nat.zero_le _
   omega
theorem zP : ∀(r p:List UInt8),∀x∈dS p r,x.length=r.length
 | [],p,x,h=>by rw [dS] at h;rw [List.mem_singleton.1 h]
 | c::r,p,x,h=>by
   rw [dS,List.mem_append] at h
   rcases h with h | h
   all_goals
    split at h
    ·obtain⟨y,hy,rfl⟩:=List.mem_map.1 h
     rw [List.length_cons,List.length_cons,zP r _ y hy]
    ·cases h
def qI (ws:List (List UInt8)) (p:List UInt8):List (List UInt8):=ws.filter (mkB p)
theorem IZ {ws:List (List UInt8)} {p x:List UInt8} (h:x∈qI ws p):x∈ws∧lq p x≤vX p:=by
 obtain⟨h1,h2⟩:=List.mem_filter.1 h
 exact⟨h1,of_decide_eq_true h2⟩
set_option maxHeartbeats 2000000
def gJ (s:List UInt8) (c:UInt8):Int:=(s.count c:Nat)
theorem tg {s:List UInt8} {c:UInt8} {k:Int} (h0:0≤k) (h:k<s.length):gJ (s.drop k.toNat) c=(if s.getD k.toNat 0=c then 1 else 0)+gJ (s.drop (k+1).toNat) c:=by
 unfold gJ
 rw [dc h0 h 0,List.count_cons]
 by_cases e:s.getD k.toNat 0=c
 ·rw [if_pos e,if_pos (by simpa using e)];omega
 ·rw [if_neg e,if_neg (by simpa using e)];omega
theorem FQ {s:List UInt8} {c:UInt8} {k:Int} (h:(s.length:Int)≤k):gJ (s.drop k.toNat) c=0:=by
 unfold gJ
 rw [dn h];rfl
theorem ES {s:List UInt8} {k n:Int} (h:std.eqI (std.byte s k) n=true) (hn:0≤n∧n≤255):s.getD k.toNat 0=UInt8.ofNat n.toNat:=by
 have h1:((s.getD k.toNat 0).toNat : Int)=n:=beq_iff_eq.1 h
 have h2:=(s.getD k.toNat 0).toNat_lt
 refine UInt8.toNat_inj.1 ?_
 rw [UInt8.toNat_ofNat']
 omega
theorem Fh {s:List UInt8} {k n:Int} (h:std.eqI (std.byte s k) n=false) (hn:0≤n∧n≤255) : ¬s.getD k.toNat 0=UInt8.ofNat n.toNat:=by
 intro e
 have h1 : ¬((s.getD k.toNat 0).toNat : Int)=n:=fun e=>by rw [show std.eqI (std.byte s k) n=true from beq_iff_eq.2 e] at h;cases h
 rw [e,UInt8.toNat_ofNat'] at h1
 omega
def mD (p:Pr):aa:=fsp (ac aS (a1 aC)) (fun (s,n)=>p.ltM (p.lenS s)∧p.inK .u8 n) (fun (s,n)=>.i .i64 (gJ s (u8 n)))
theorem yT:FOk Tryz.prog 279 (mD std):=by
 refine FOk.go (c:=cx std [] [] 0) (ae .nil .nil) mixed Tryz.func279 rfl rfl rfl (by kernel_rfl) ?_
 rintro ⟨s,n⟩ hp
 dsimp only at hp
 refine⟨rfl,?_⟩
 obtain⟨H,hH⟩ : ∃H:Hd (Int×Int),H=⟨fun (m,k)=>0≤k∧k≤s.length∧0≤m∧m≤k∧gJ s (u8 n)=m+gJ (s.drop k.toNat) (u8 n),fun (m,k)=>(s.length-k).toNat,(· < ·)⟩:=⟨_,rfl⟩
 have hl:=hdl hH
 generalize hP:std=p,hB0:gJ=B0,hB1:u8=B1
 cbv
 repeat' first|refine fun (_:Unit)=>?_;cbv|refine Or.inr ⟨7,[],[.s 5 (.i .i64),.s 6 (.i .i64)],[],[],H,rfl,hl,?_,fun ((m,k):Int×Int) hk=>?_⟩<;>cbv|refine aI2 (fun h=>?_) (fun h=>?_)<;>cbv|refine aI2 ?_ ?_
 all_goals subst hP hB0 hB1 hH
 all_goals clear hl
 all_goals try dsimp only at hk
 all_goals try dsimp only
 all_goals try exact fin
 all_goals obtain⟨q0,q1,q2,q3,q4⟩:=hk
 all_goals have hn:0≤n∧n≤255:=hp.2
 all_goals have hu:u8 n=UInt8.ofNat n.toNat:=rfl
 all_goals try (have hlt:k<(s.length:Int):=ah ‹_›)
 ·have e:=ES h hn
  refine⟨by show 0≤k+1;omega,by show k+1≤(s.length:Int);omega,by show 0≤m+1;omega,by show m+1≤k+1;omega,?_⟩
  show _=m+1+gJ (s.drop (k+1).toNat) (u8 n)
  rw [q4,tg q0 hlt,if_pos (by rw [hu];exact e)];omega
 ·have e:=Fh h hn
  refine⟨by show 0≤k+1;omega,by show k+1≤(s.length:Int);omega,q2,by show m≤k+1;omega,?_⟩
  show _=m+gJ (s.drop (k+1).toNat) (u8 n)
  rw [q4,tg q0 hlt,if_neg (by rw [hu];exact e)];omega
 ·rw [q4,FQ (ao h)];omega
def CQ (s:List UInt8):Int:=(vX s:Nat)
theorem R5 (s:List UInt8):CQ s=gJ s 63:=rfl
def kR (p:Pr):aa:=fsp (a1 aS) (fun s=>p.ltM (p.lenS s)) (fun s=>.i .i64 (CQ s))
theorem wR:FOk Tryz.prog 300 (kR std):=by
 refine FOk.go (c:=cx std [] [] 0) (ae .nil .nil) mixed Tryz.func300 rfl rfl rfl (by kernel_rfl) ?_
 rintro s hp
 refine⟨rfl,?_⟩
 obtain⟨H,hH⟩ : ∃H:Hd (Int×Int),H=⟨fun (m,k)=>0≤k∧k≤s.length∧0≤m∧m≤k∧CQ s=m+CQ (s.drop k.toNat),fun (m,k)=>(s.length-k).toNat,(· < ·)⟩:=⟨_,rfl⟩
 have hl:=hdl hH
 generalize hP:std=p,hB0:CQ=B0
 cbv
 repeat' first|refine fun (_:Unit)=>?_;cbv|refine Or.inr ⟨5,[],[.s 3 (.i .i64),.s 4 (.i .i64)],[],[],H,rfl,hl,?_,fun ((m,k):Int×Int) hk=>?_⟩<;>cbv|refine aI2 (fun h=>?_) (fun h=>?_)<;>cbv|refine aI2 ?_ ?_
 all_goals subst hP hB0 hH
 all_goals clear hl
 all_goals try dsimp only at hk
 all_goals try dsimp only
 all_goals try exact fin
 all_goals obtain⟨q0,q1,q2,q3,q4⟩:=hk
 all_goals simp only [R5] at q4 ⊢
 all_goals try (have hlt:k<(s.length:Int):=ah ‹_›)
 ·have e:=ES h (by decide)
  refine⟨by show 0≤k+1;omega,by show k+1≤(s.length:Int);omega,by show 0≤m+1;omega,by show m+1≤k+1;omega,?_⟩
  show _=m+1+gJ (s.drop (k+1).toNat) 63
  rw [q4,tg q0 hlt,if_pos (show s.getD k.toNat 0=63 from e)];omega
 ·have e:=Fh h (by decide)
  refine⟨by show 0≤k+1;omega,by show k+1≤(s.length:Int);omega,q2,by show m≤k+1;omega,?_⟩
  show _=m+gJ (s.drop (k+1).toNat) 63
  rw [q4,tg q0 hlt,if_neg (show ¬s.getD k.toNat 0=63 from e)];omega
 ·rw [q4,FQ (ao h)];omega
def ni (p w:List UInt8):Int:=(lq p w:Nat)
theorem Hn {q:List UInt8} {k:Int} (h0:0≤k) (h:k<q.length):std.drp (std.tak q (std.add k 1)) k=[q.getD k.toNat 0]:=by
 show (q.take (k+1).toNat).drop k.toNat=_
 rw [tk h0 h 0,List.drop_append_of_le_length (by rw [List.length_take];omega),List.drop_of_length_le (by rw [List.length_take];omega)];rfl
theorem zf {l q:List UInt8} {k:Int} (h0:0≤k) (h:k<q.length):ni l (q.drop k.toNat)=if takeB l [q.getD k.toNat 0] then ni (bR l [q.getD k.toNat 0]) (q.drop (k+1).toNat) else 1+ni l (q.drop (k+1).toNat):=by
 unfold ni
 rw [dc h0 h 0,lq]
 split<;>omega
theorem xP (l:List UInt8) (c:UInt8):(bR l [c]).length ≤l.length:=by
 rw [ug];exact List.length_erase_le
def nJ (p:Pr):aa:=fsp (ac aS (a1 aS)) (fun (s,q)=>p.ltM (p.lenS s)∧p.ltM (p.lenS q)) (fun (s,q)=>.i .i64 (ni s q))
theorem AO:FOk Tryz.prog 299 (nJ std):=by
 refine FOk.go (c:=cx std [(126,bo std)] [] 0) (ae (.cons dR .nil) .nil) mixed Tryz.func299 rfl rfl rfl (by kernel_rfl) ?_
 rintro ⟨s,q⟩ hp
 dsimp only at hp
 refine⟨rfl,?_⟩
 unfold bo
 obtain⟨H,hH⟩ : ∃H:Hd (List UInt8×Int×Int),H=⟨fun (l,m,k)=>0≤k∧k≤q.length∧0≤m∧m≤k∧l.length≤s.length∧ni s q=m+ni l (q.drop k.toNat),fun (l,m,k)=>(q.length-k).toNat,(· < ·)⟩:=⟨_,rfl⟩
 have hl:=hdl hH
 generalize hP:std=p,hB0:ni=B0,hB1:bR=B1,hB2:takeB=B2
 cbv
 repeat' first|refine fun (_:Unit)=>?_;cbv|refine Or.inr ⟨11,[],[.s 5 .s,.s 6 (.i .i64),.s 7 (.i .i64)],[],[],H,rfl,hl,?_,fun ((l,m,k):List UInt8×Int×Int) hk=>?_⟩<;>cbv|refine aI2 (fun h=>?_) (fun h=>?_)<;>cbv|refine aI2 ?_ ?_
 all_goals subst hP hB0 hB1 hB2 hH
 all_goals clear hl
 all_goals try dsimp only at hk
 all_goals try dsimp only
 all_goals try exact fin
 all_goals obtain⟨q0,q1,q2,q3,q4,q5⟩:=hk
 all_goals try (have hlt:k<(q.length:Int):=ah ‹_›)
 ·rw [Hn q0 hlt] at h ⊢
  refine⟨by show 0≤k+1;omega,by show k+1≤(q.length:Int);omega,q2,by show m≤k+1;omega,Nat.le_trans (xP _ _) q4,?_⟩
  show _=m+ni _ (q.drop (k+1).toNat)
  rw [q5,zf q0 hlt,if_pos h]
 ·rw [Hn q0 hlt] at h
  refine⟨by show 0≤k+1;omega,by show k+1≤(q.length:Int);omega,by show 0≤m+1;omega,by show m+1≤k+1;omega,q4,?_⟩
  show _=m+1+ni _ (q.drop (k+1).toNat)
  rw [q5,zf q0 hlt,if_neg (by rw [h];decide)];omega
 ·rw [q5,dn (ao h)]
  show m=m+((lq l []:Nat):Int)
  rw [lq];omega
def pt (p:Pr):aa:=fsp (ac aS (a1 aS)) (fun (s,q)=>p.ltM (p.lenS s)∧p.ltM (p.lenS q)) (fun (s,q)=>.b (mkB s q))
theorem CR:FOk Tryz.prog 255 (pt std):=by
 refine FOk.go (c:=cx std [(299,nJ std),(300,kR std)] [] 0) (ae (.cons AO (.cons wR .nil)) .nil) mixed Tryz.func255 rfl rfl rfl (by kernel_rfl) ?_
 rintro ⟨s,q⟩ hp
 dsimp only at hp
 refine⟨rfl,?_⟩
 unfold nJ kR
 generalize hP:std=p,hB0:mkB=B0,hB1:ni=B1,hB2:CQ=B2
 cbv
 repeat' first|refine fun (_:Unit)=>?_;cbv|refine aI2 (fun h=>?_) (fun h=>?_)<;>cbv|refine aI2 ?_ ?_|refine Or.inl (fun (_:Unit)=>?_);cbv
 all_goals subst hP hB0 hB1 hB2
 all_goals try exact fin
 ·show decide (ni s q≤CQ s)=decide (lq s q≤vX s)
  unfold ni CQ
  rw [Bool.eq_iff_iff,decide_eq_true_eq,decide_eq_true_eq];omega
structure WyP (q w:List UInt8):Prop where
 n:w.length≤12
 q:(q.length:Int)≤1048576
 s : ∀c∈w,97≤c.toNat∧c.toNat≤122
def upc (w:List UInt8):List UInt8:=fZ [((w.getD 0 0).toNat : Int)-97+65]
def wyA (q w:List UInt8):List (List UInt8):=dS (bR q [63]) (w.drop 1)
def wyB (q w:List UInt8):List (List UInt8):=dS (bR q (w.take 1)) (w.drop 1)
def wy1 (q w:List UInt8):List (List UInt8):=if takeB q [63] then (wyA q w).map (upc w++·) else []
def wy2 (q w:List UInt8):List (List UInt8):=if takeB q (w.take 1) then (wyB q w).map (w.take 1++·) else []
section
variable {q w:List UInt8} {k:Int} {m:Nat}
theorem RR {c:UInt8} {r:List UInt8} (h:97≤c.toNat∧c.toNat≤122):upc (c::r)=[c-97+65]:=by
 show [UInt8.ofNat ((c.toNat:Int)-97+65).toNat]=_
 refine congrArg (fun x=>[x]) (UInt8.toNat_inj.1 ?_)
 rw [UInt8.toNat_ofNat',UInt8.toNat_add,UInt8.toNat_sub_of_le _ _ (by rw [UInt8.le_iff_toNat_le];exact h.1)]
 show ((c.toNat:Int)-97+65).toNat % 256=(c.toNat-97+65)%256
 omega
theorem Jv (h:WyP q w) (h0:w≠[]):dS q w=wy1 q w++wy2 q w:=by
 cases w with
 | nil=>exact absurd rfl h0
 | cons c r=>
   have e:=RR (r:=r) (h.s c (List.mem_cons_self ..))
   rw [dS]
   unfold wy1 wy2 wyA wyB
   rw [e]
   rfl
theorem WyP.A (h:WyP q w):WyP (bR q [63]) (w.drop 1):=⟨by rw [List.length_drop];have:=h.n;omega,by have:=xP q 63;have:=h.q;omega,fun c hc=>h.s c (List.mem_of_mem_drop hc)⟩
theorem WyP.B (h:WyP q w) (h0:w≠[]):WyP (bR q (w.take 1)) (w.drop 1):=by
 cases w with
 | nil=>exact absurd rfl h0
 | cons c r=>exact⟨by rw [List.length_drop];have:=h.n;omega,by have:=xP q c;have:=h.q;show ((bR q [c]).length : Int)≤_;omega,fun c hc=>h.s c (List.mem_of_mem_drop hc)⟩
theorem wG {p r:List UInt8} (h:r.length≤12):(dS p r).length ≤4096:=Nat.le_trans (xd r p) (Nat.pow_le_pow_right (by decide) h)
theorem FG {p r:List UInt8} (h:r.length≤12) (k:Nat):((dS p r).getD k []).length ≤12:=by
 rw [List.getD_eq_getElem?_getD]
 cases hk:(dS p r)[k]? with
 | none=>exact Nat.zero_le _
 | some x=>rw [show ((some x).getD [])=x from rfl,zP r p x (List.mem_of_getElem? hk)];exact h
theorem Db {f:List UInt8→List UInt8} {l:List (List UInt8)} (h0:0≤k) (h:k<l.length):(l.take (k+1).toNat).map f=(l.take k.toNat).map f++[f (l.getD k.toNat [])]:=by
 rw [tk h0 h [],List.map_append];rfl
theorem RT (h:std.eqS w []=false):w≠[]:=beq_eq_false_iff_ne.1 h
theorem K6 (h:w≠[]):0<w.length:=List.length_pos_iff.2 h
theorem wl1 (h:w≠[]):std.leP 1 (std.lenS w):=by show (1:Int)≤(w.length:Int);have:=K6 h;omega
theorem wl0 (h:w≠[]):std.inL 0 (std.lenS w):=⟨Int.le_refl 0,by show (0:Int)<(w.length:Int);have:=K6 h;omega⟩
theorem wq (h:WyP q w):std.ltM (std.lenS q):=by show (q.length:Int)≤274877906944;have:=h.q;omega
theorem wm (h:w.length<m+1) (h0:w≠[]):(w.drop 1).length < m:=by rw [List.length_drop];have:=K6 h0;omega
theorem wc (h:WyP q w) (h0:w≠[]):97≤(w.getD 0 0).toNat ∧(w.getD 0 0).toNat ≤122:=by
 cases w with
 | nil=>exact absurd rfl h0
 | cons c r=>exact h.s c (List.mem_cons_self ..)
theorem wu1 (h:WyP q w) (h0:w≠[]):std.inK .u8 (std.sub (std.byte w 0) 97):=by
 have:=wc h h0
 show (0:Int)≤((w.getD 0 0).toNat : Int)-97∧((w.getD 0 0).toNat : Int)-97≤255
 omega
theorem wu2 (h:WyP q w) (h0:w≠[]):std.inK .u8 (std.add (std.sub (std.byte w 0) 97) 65):=by
 have:=wc h h0
 show (0:Int)≤((w.getD 0 0).toNat : Int)-97+65∧((w.getD 0 0).toNat : Int)-97+65≤255
 omega
theorem wa1 (h:WyP q w):std.inK .i64 (std.add (std.lenS (std.toS [std.add (std.sub (std.byte w 0) 97) 65])) (std.lenS (std.get [] (wyA q w) k))):=by
 have:=FG (p:=bR q [63]) h.A.n k.toNat
 show (-9223372036854775808:Int)≤((1:Nat):Int)+(((wyA q w).getD k.toNat []).length : Int)∧((1:Nat):Int)+(((wyA q w).getD k.toNat []).length : Int)≤9223372036854775807
 have : ((wyA q w).getD k.toNat []).length ≤12:=this
 omega
theorem wb1 (h:WyP q w) (h0:w≠[]):std.inK .i64 (std.add (std.lenS (std.tak w 1)) (std.lenS (std.get [] (wyB q w) k))):=by
 have:=FG (p:=bR q (w.take 1)) (h.B h0).n k.toNat
 have h1:((wyB q w).getD k.toNat []).length ≤12:=this
 have h2:(w.take 1).length ≤1:=by rw [List.length_take];omega
 show (-9223372036854775808:Int)≤((w.take 1).length : Int)+(((wyB q w).getD k.toNat []).length : Int)∧((w.take 1).length : Int)+(((wyB q w).getD k.toNat []).length : Int)≤9223372036854775807
 omega
theorem wk (h:WyP q w) (hk:k<(wyA q w).length) (h0:0≤k):std.inK .i64 (std.add k 1):=by
 have h1:(wyA q w).length ≤4096:=wG h.A.n
 exact an (by show _≤k+1∧k+1≤_;omega)
theorem wk2 (h:WyP q w) (hw:w≠[]) (hk:k<(wyB q w).length) (h0:0≤k):std.inK .i64 (std.add k 1):=by
 have h1:(wyB q w).length ≤4096:=wG (h.B hw).n
 exact an (by show _≤k+1∧k+1≤_;omega)
theorem Sq (h:WyP q w):(wy1 q w).length ≤4096:=by
 unfold wy1
 split
 ·rw [List.length_map];exact wG h.A.n
 ·exact Nat.zero_le _
variable {L:List (List UInt8)} {x:List UInt8}
theorem wx1 (h:WyP q w) (e:L=((wyA q w).take k.toNat).map (upc w++·)):std.ltM (std.add (std.len L) (std.len [x])):=by
 have h1:(wyA q w).length ≤4096:=wG h.A.n
 have h2:L.length≤4096:=by rw [e,List.length_map,List.length_take];omega
 show (L.length:Int)+1≤274877906944
 omega
theorem wx2 (h:WyP q w) (hw:w≠[]) (e:L=wy1 q w++((wyB q w).take k.toNat).map (w.take 1++·)):std.ltM (std.add (std.len L) (std.len [x])):=by
 have h1:(wyB q w).length ≤4096:=wG (h.B hw).n
 have h3:=Sq h
 have h2:L.length≤8192:=by rw [e,List.length_append,List.length_map,List.length_take];omega
 show (L.length:Int)+1≤274877906944
 omega
theorem wi1 (h0:0≤k) (hk:k<(wyA q w).length) (e:L=((wyA q w).take k.toNat).map (upc w++·)):0≤k+1∧k+1≤((wyA q w).length : Int)∧L++[upc w++(wyA q w).getD k.toNat []]=((wyA q w).take (k+1).toNat).map (upc w++·):=
 ⟨by omega,by omega,by rw [Db h0 hk,e]⟩
theorem wi2 (h0:0≤k) (hk:k<(wyB q w).length) (e:L=wy1 q w++((wyB q w).take k.toNat).map (w.take 1++·)):0≤k+1∧k+1≤((wyB q w).length : Int)∧L++[w.take 1++(wyB q w).getD k.toNat []]=wy1 q w++((wyB q w).take (k+1).toNat).map (w.take 1++·):=
 ⟨by omega,by omega,by rw [Db h0 hk,e,List.append_assoc]⟩
theorem we1 (ha:takeB q [63]=true) (hk:((wyA q w).length : Int)≤k) (e:L=((wyA q w).take k.toNat).map (upc w++·)):L=wy1 q w:=by
 rw [e,bZ hk]
 exact (if_pos ha).symm
theorem we2 (h:WyP q w) (hw:w≠[]) (hb:takeB q (w.take 1)=true) (hk:((wyB q w).length : Int)≤k) (e:L=wy1 q w++((wyB q w).take k.toNat).map (w.take 1++·)):L=dS q w:=by
 rw [Jv h hw,e,bZ hk]
 exact congrArg (wy1 q w++·) (if_pos hb).symm
theorem we3 (h:WyP q w) (hw:w≠[]) (hb:takeB q (w.take 1)=false) (e:L=wy1 q w):L=dS q w:=by
 rw [Jv h hw,e,show wy2 q w=[] from if_neg (by rw [hb];decide),List.append_nil]
theorem we0 (ha:takeB q [63]=false) : []=wy1 q w:=(if_neg (by rw [ha];decide)).symm
theorem wi0 (e:L=wy1 q w):(0:Int)≤0∧(0:Int)≤((wyB q w).length : Int)∧L=wy1 q w++((wyB q w).take (Int.toNat 0)).map (w.take 1++·):=
 ⟨Int.le_refl 0,Int.natCast_nonneg _,by rw [e];exact (List.append_nil _).symm⟩
end
def ltL (w:List UInt8) (m:Nat):Prop:=w.length<m
def fG (m:Nat) (p:Pr):aa:=fsp (ac aS (a1 aS)) (fun (q,w)=>ltL w m∧WyP q w) (fun (q,w)=>.osl 0) (fun (q,w)=>[(0,.own [.s] (dS q w) 9)])
theorem AK : ∀m:Nat,FOk Tryz.prog 201 (fG m std):=by
 intro m
 induction m with
 | zero=>exact FOk.no Tryz.func201 rfl rfl fun a h=>absurd h.1 (Nat.not_lt_zero _)
 | succ m ih=>
   refine FOk.go (c:=cx std [(126,bo std),(201,fG m std)] [] 0) (ae (.cons dR (.cons ih .nil)) .nil) mixed Tryz.func201 rfl rfl rfl (by kernel_rfl) ?_
   rintro ⟨q,w⟩ hp
   dsimp only at hp
   refine⟨rfl,?_⟩
   unfold bo fG
   obtain⟨H,hH⟩ : ∃H:Hd (Int×List (List UInt8)),H=⟨fun (k,L)=>0≤k∧k≤(wyA q w).length ∧L=((wyA q w).take k.toNat).map (upc w++·),fun (k,L)=>((wyA q w).length - k).toNat,(· < ·)⟩:=⟨_,rfl⟩
   have hl:=hdl hH
   obtain⟨H2,hH2⟩ : ∃H:Hd (Int×List (List UInt8)),H=⟨fun (k,L)=>0≤k∧k≤(wyB q w).length ∧L=wy1 q w++((wyB q w).take k.toNat).map (w.take 1++·),fun (k,L)=>((wyB q w).length - k).toNat,(· < ·)⟩:=⟨_,rfl⟩
   have hl2 : ∀m n,H2.lt m n→m<n:=by subst hH2;exact fun _ _ h=>h
   generalize hP:std=p,hB0:dS=B0,hB1:bR=B1,hB2:takeB=B2,hB3:ltL=B3
   cbv
   repeat' first|refine fun (_:Unit)=>?_;cbv|refine Or.inr ⟨29,[],[.s 10 (.i .i64),.o 0 [.s]],[.s 5],[],H,rfl,hl,?_,fun ((k,L):Int×List (List UInt8)) hk=>?_⟩<;>cbv|refine Or.inr ⟨60,[],[.s 12 (.i .i64),.o 0 [.s]],[.s 5],[],H2,rfl,hl2,?_,fun ((k,L):Int×List (List UInt8)) hk2=>?_⟩<;>cbv|refine aI2 (fun h=>?_) (fun h=>?_)<;>cbv|refine aI2 ?_ ?_
   all_goals subst hP hB0 hB1 hB2 hB3 hH hH2
   all_goals clear hl
   all_goals try dsimp only at hk
   all_goals clear hl2
   all_goals try dsimp only at hk2
   all_goals try dsimp only
   all_goals try exact fin
   ·rw [show w=[] from beq_iff_eq.1 h,dS]
   all_goals have hw:w≠[]:=RT ‹_›
   all_goals have hP:=hp.2
   ·exact wl0 hw
   ·exact wq hP
   ·exact wl1 hw
   ·exact wm hp.1 hw
   ·exact hP.A
   ·exact wu1 hP hw
   ·exact wu2 hP hw
   ·exact wa1 hP
   ·exact wx1 hP hk.2.2
   ·exact wk hP (ah ‹_›) hk.1
   ·exact wi1 hk.1 (ah ‹_›) hk.2.2
   ·have h1:k<((wyA q w).length : Int):=ah ‹_›
    show (((wyA q w).length : Int)-(k+1)).toNat < (((wyA q w).length : Int)-k).toNat
    omega
   ·exact wl1 hw
   ·exact wq hP
   ·exact wl1 hw
   ·exact wm hp.1 hw
   ·exact hP.B hw
   ·exact wi0 (we1 ‹_› (ao ‹_›) hk.2.2)
   ·exact wl1 hw
   ·exact wb1 hP hw
   ·exact wx2 hP hw hk2.2.2
   ·exact wk2 hP hw (ah ‹_›) hk2.1
   ·exact wi2 hk2.1 (ah ‹_›) hk2.2.2
   ·have h1:k<((wyB q w).length : Int):=ah ‹_›
    show (((wyB q w).length : Int)-(k+1)).toNat < (((wyB q w).length : Int)-k).toNat
    omega
   ·exact congrArg (fun z=>Ob.own [.s] z 9) (we2 hP hw ‹_› (ao ‹_›) hk2.2.2)
   ·exact congrArg (fun z=>Ob.own [.s] z 9) (we3 hP hw ‹_› (we1 ‹_› (ao ‹_›) hk.2.2))
   ·exact wl1 hw
   ·exact wq hP
   ·exact wl1 hw
   ·exact wm hp.1 hw
   ·exact hP.B hw
   ·exact wi0 (we0 ‹_›)
   ·exact wl1 hw
   ·exact wb1 hP hw
   ·exact wx2 hP hw hk2.2.2
   ·exact wk2 hP hw (ah ‹_›) hk2.1
   ·exact wi2 hk2.1 (ah ‹_›) hk2.2.2
   ·have h1:k<((wyB q w).length : Int):=ah ‹_›
    show (((wyB q w).length : Int)-(k+1)).toNat < (((wyB q w).length : Int)-k).toNat
    omega
   ·exact congrArg (fun z=>Ob.own [.s] z 9) (we2 hP hw ‹_› (ao ‹_›) hk2.2.2)
   ·exact congrArg (fun z=>Ob.own [.s] z 9) (we3 hP hw ‹_› (we0 ‹_›))
def fp (p:Pr):=fG 13 p
theorem pn:FOk Tryz.prog 201 (fp std):=AK 13
end Ax
end Go.Proofs.YtjjonmhpgkahoaaGreatDoor
