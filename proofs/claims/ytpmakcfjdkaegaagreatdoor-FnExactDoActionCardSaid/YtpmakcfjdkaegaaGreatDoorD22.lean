/-
  Plain laws: small letters of strings, letters on a board, words of a lexicon, first places of bytes; Words for rows that a call makes: append of new elements, bytes made of a string and stored into, strings made of bytes; The library's functions as the plain walker sees them; slices.Clone as the plain walker sees it; Words, piles, lexicons, tile sets of the impl package: whether they are valid.
  Conditions: as each part below says.
-/
import Derived.Test.YtpmakcfjdkaegaaGreatDoorD12
import Derived.Shelf.Strings.CaseAny
import Derived.Lib.Builder
import Derived.Shelf.Spec.SearchS
import Derived.Lib.Replace
import Derived.Lib.SplitLaws
import Derived.Test.YtpmakcfjdkaegaaGreatDoorD02
import Derived.Test.YtpmakcfjdkaegaaGreatDoorD21
import Derived.Test.YtpmakcfjdkaegaaGreatDoorD18
set_option linter.unusedSimpArgs false
set_option linter.unusedVariables false
namespace Go.Proofs.YtpmakcfjdkaegaaGreatDoor
open Go.RowKit
set_option maxRecDepth 100000
def asciiB (s:Str):Bool:=s.all fun c=>decide (c.toNat<128)
theorem small_low (c:UInt8):smallB (lowC c)=(smallB c||capB c):=by
 unfold lowC
 cases hc:capB c
 ·simp
 ·unfold capB at hc
  simp only [Bool.and_eq_true,decide_eq_true_eq] at hc
  simp only [if_true,Bool.or_true]
  unfold smallB
  have h1:(c+32).toNat =c.toNat+32:=by
   rw [UInt8.toNat_add]
   have : (32:UInt8).toNat =32:=rfl
   omega
  simp only [Bool.and_eq_true,decide_eq_true_eq]
  omega
theorem word_low (s:Str):isWordB (lowS s)=placedB s:=by
 unfold isWordB placedB lowS
 rw [List.length_map,List.all_map]
 have : (s.all (smallB ∘ lowC))=s.all (fun c=>smallB c||capB c):=by
  congr 1;funext c;exact small_low c
 rw [this]
theorem toLowerA_low (l:Str):Lib.toLowerA l=lowS l:=by
 unfold Lib.toLowerA lowS
 refine List.map_congr_left fun c _=>?_
 have h:Lib.isUpperB c=capB c:=by
  unfold Lib.isUpperB capB
  rw [Bool.eq_iff_iff]
  simp [UInt8.le_iff_toNat_le]
  omega
 unfold Lib.lowerB lowC
 rw [h]
theorem lettB_ascii {s:Str} (h:lettB s=true):asciiB s=true:=by
 refine List.all_eq_true.2 fun c hc=>?_
 have:=List.all_eq_true.1 h c hc
 unfold smallB capB at this
 simp only [Bool.or_eq_true,Bool.and_eq_true,decide_eq_true_eq] at this ⊢
 omega
theorem enc_small {x:Int} (h:(Lib.encodeRune x).all smallB=true):(Lib.encodeRune x).length =1:=by
 unfold Lib.encodeRune Lib.encodeRuneZ at h ⊢
 have big : ∀z:Int,192≤z→z≤255→smallB z.toNat.toUInt8=false:=fun z h0 h1=>by
  have e:z.toNat.toUInt8.toNat=z.toNat:=by
   rw [Nat.toUInt8_eq,UInt8.toNat_ofNat']
   omega
  unfold smallB
  rw [e,Bool.and_eq_false_iff]
  right
  simp only [decide_eq_false_iff_not]
  omega
 split at h
 ·rename_i h0;rw [if_pos h0];rfl
 ·rename_i h0
  split at h
  ·rename_i h1
   rw [List.map_cons,List.all_cons,big _ (by omega) (by omega)] at h
   cases h
  ·rename_i h1
   split at h
   ·rename_i h2
    rw [List.map_cons,List.all_cons,big _ (by omega) (by omega)] at h
    cases h
   ·rename_i h2
    split at h
    ·rename_i h3
     rw [List.map_cons,List.all_cons,big _ (by omega) (by omega)] at h
     cases h
    ·rw [List.map_cons,List.all_cons,big _ (by omega) (by omega)] at h
     cases h
theorem dec_high {b:UInt8} {t:Str} (h:128≤b.toNat):2≤(Lib.decodeL (b::t)).2∨(Lib.decodeL (b::t)).1=65533:=by
 unfold Lib.decodeL Utf8.decode
 have h0 : ¬((ByteArray.mk (b::t).toArray).get! (0+0)).toNat < 128:=by
  show ¬b.toNat<128
  omega
 simp only [if_neg h0]
 split
 ·split
  ·left;exact Nat.le_refl _
  ·right;rfl
 ·split
  ·split
   ·left;exact Nat.le_succ _
   ·right;rfl
  ·split
   ·split
    ·left;show 2≤4;omega
    ·right;rfl
   ·right;rfl
theorem dec_le (b:UInt8) (t:Str):(Lib.decodeL (b::t)).2≤(b::t).length :=by
 have hz:(ByteArray.mk (b::t).toArray).size =(b::t).length :=by simp [ByteArray.size]
 have h1:1≤(b::t).length :=by simp
 unfold Lib.decodeL Utf8.decode
 simp only
 split
 ·exact h1
 ·split
  ·rename_i h
   simp only [Bool.and_eq_true,decide_eq_true_eq] at h
   split
   ·show 2≤_;omega
   ·exact h1
  ·split
   ·rename_i h
    simp only [Bool.and_eq_true,decide_eq_true_eq] at h
    split
    ·show 3≤_;omega
    ·exact h1
   ·split
    ·rename_i h
     simp only [Bool.and_eq_true,decide_eq_true_eq] at h
     split
     ·show 4≤_;omega
     ·exact h1
    ·exact h1
theorem low_bad:Lib.toLowerU 65533=65533:=by decide +kernel
theorem low_len : ∀(n:Nat) (l:Str),l.length≤n→(Lib.toLowerD l).all smallB=true→(Lib.toLowerD l).length ≤l.length∧((Lib.toLowerD l).length =l.length→asciiB l=true)
 | _,[],_,_=>⟨Nat.le_refl _,fun _=>rfl⟩
 | 0,_::_,hn,_=>by simp at hn
 | n+1,b::t,hn,h=>by
   have hw:=Lib.decodeL_width (b::t)
   have hw2:=dec_le b t
   have hs:=Lib.mapD_step Lib.toLowerU (b::t) (by simp)
   have hrec:=fun k (hk:1≤k)=>low_len n ((b::t).drop k) (by rw [List.length_drop,List.length_cons];rw [List.length_cons] at hn;omega)
   unfold Lib.toLowerD at h hrec ⊢
   rw [hs,List.all_append,Bool.and_eq_true] at h
   rw [hs,List.length_append]
   obtain⟨h1,h2⟩:=h
   obtain⟨r1,r2⟩:=hrec _ hw h2
   have e1:(if 0≤Lib.toLowerU ((Lib.decodeL (b::t)).1:Int) then Lib.encodeRune (Lib.toLowerU ((Lib.decodeL (b::t)).1:Int)) else []).length ≤1:=by
    split
    ·rename_i h0
     rw [if_pos h0] at h1
     exact Nat.le_of_eq (enc_small h1)
    ·exact Nat.zero_le _
   rw [List.length_drop] at r1 r2
   refine⟨by rw [List.length_cons] at r1 hw2 ⊢;omega,fun e=>?_⟩
   have hd1:(Lib.decodeL (b::t)).2=1:=by rw [List.length_cons] at r1 e hw2;omega
   have ha:=r2 (by rw [List.length_cons] at r1 e ⊢;omega)
   rw [hd1,List.drop_succ_cons,List.drop_zero] at ha
   have hb:b.toNat<128:=by
    refine Classical.byContradiction fun hb=>?_
    rcases dec_high (t:=t) (show 128≤b.toNat by omega) with h3 | h3
    ·omega
    ·rw [h3] at h1
     have e3:Lib.toLowerU ((65533:Nat):Int)=65533:=low_bad
     rw [e3,if_pos (by decide)] at h1
     exact absurd h1 (by decide)
   unfold asciiB at ha ⊢
   rw [List.all_cons,ha,decide_eq_true hb]
   rfl
theorem placed_low (s:Str):(isWordB (Lib.toLowerD s)&&decide (s.length=(Lib.toLowerD s).length))=placedB s:=by
 by_cases ha:asciiB s=true
 ·have e:Lib.toLowerD s=lowS s:=by
   rw [Lib.toLowerD_ascii _ (fun b hb=>by simpa using List.all_eq_true.1 ha b hb)]
   exact toLowerA_low s
  rw [e,word_low]
  have : (lowS s).length =s.length:=by simp [lowS]
  rw [this,decide_eq_true rfl,Bool.and_true]
 ·have h1:(isWordB (Lib.toLowerD s)&&decide (s.length=(Lib.toLowerD s).length))=false:=by
   rw [Bool.eq_false_iff]
   intro h
   rw [Bool.and_eq_true,decide_eq_true_eq] at h
   have h2:=h.1
   unfold isWordB at h2
   rw [Bool.and_eq_true] at h2
   exact ha ((low_len _ s (Nat.le_refl _) h2.1).2 h.2.symm)
  have h2:placedB s=false:=by
   rw [Bool.eq_false_iff]
   intro h
   unfold placedB at h
   rw [Bool.and_eq_true] at h
   exact ha (lettB_ascii h.1)
  rw [h1,h2]
theorem enc_len (x:Int):(Lib.encodeRune x).length ≤4:=by
 unfold Lib.encodeRune Lib.encodeRuneZ
 rw [List.length_map]
 split
 ·simp
 ·split
  ·simp
  ·split
   ·simp
   ·split<;>simp
theorem low_4 : ∀(n:Nat) (l:Str),l.length≤n→(Lib.toLowerD l).length ≤4*l.length
 | _,[],_=>Nat.le_refl _
 | 0,_::_,hn=>by simp at hn
 | n+1,b::t,hn=>by
   have hw:=Lib.decodeL_width (b::t)
   have hs:=Lib.mapD_step Lib.toLowerU (b::t) (by simp)
   have hrec:=low_4 n ((b::t).drop (Lib.decodeL (b::t)).2) (by rw [List.length_drop,List.length_cons];rw [List.length_cons] at hn;omega)
   unfold Lib.toLowerD at hrec ⊢
   rw [hs,List.length_append]
   rw [List.length_drop] at hrec
   have e1:(if 0≤Lib.toLowerU ((Lib.decodeL (b::t)).1:Int) then Lib.encodeRune (Lib.toLowerU ((Lib.decodeL (b::t)).1:Int)) else []).length ≤4:=by
    split
    ·exact enc_len _
    ·exact Nat.zero_le _
   rw [List.length_cons] at hrec ⊢
   omega
theorem bytesLess_iff : ∀(x y:List UInt8),Op.bytesLess x y=decide (x<y)
 | [],[]=>by simp [Op.bytesLess]
 | _::_,[]=>by simp [Op.bytesLess]
 | [],_::_=>by simp [Op.bytesLess]
 | a::x,b::y=>by
   rw [Op.bytesLess,bytesLess_iff x y]
   simp only [List.cons_lt_cons_iff]
   by_cases h1:a<b<;>by_cases h2:a=b<;>by_cases h3:x<y<;>simp [h1,h2,h3]
theorem sLt_iff (a b:Str):sLt a b=true↔a<b:=by rw [sLt,bytesLess_iff];exact decide_eq_true_iff
theorem sLt_no (a b:Str):sLt a b=false↔b≤a:=by rw [sLt,bytesLess_iff,decide_eq_false_iff_not,List.not_lt]
def incB:List Str→Bool
 | []=>true
 | [_]=>true
 | a::b::r=>sLt a b&&incB (b::r)
theorem firstK_le : ∀(ws:List Str) (s:Str),firstK ws s≤ws.length
 | [],_=>Nat.le_refl _
 | x::r,s=>by
   rw [firstK]
   have:=firstK_le r s
   split<;>simp<;>omega
theorem incB_pw : ∀ws:List Str,incB ws=true→ws.Pairwise (fun a b=>a<b)
 | [],_=>.nil
 | [_],_=>by simp
 | a::b::r,h=>by
   rw [incB,Bool.and_eq_true] at h
   have ih:=incB_pw (b::r) h.2
   have hab:=(sLt_iff a b).1 h.1
   refine .cons (fun x hx=>?_) ih
   rcases List.mem_cons.1 hx with rfl | hx
   ·exact hab
   ·exact List.lt_trans hab ((List.pairwise_cons.1 ih).1 x hx)
theorem firstK_lt : ∀(ws:List Str) (s:Str) (t:Nat),t<firstK ws s→sLt (ws.getD t []) s=true
 | [],_,t,h=>absurd h (Nat.not_lt_zero t)
 | x::r,s,t,h=>by
   rw [firstK] at h
   cases hx:sLt x s<;>rw [hx] at h
   ·simp at h
   ·cases t with
    | zero=>simpa using hx
    | succ t=>simpa using firstK_lt r s t (by simp at h;omega)
theorem firstK_ge : ∀(ws:List Str) (s:Str),ws.Pairwise (fun a b=>a<b)→∀t,firstK ws s≤t→t<ws.length→sLt (ws.getD t []) s=false
 | [],_,_,t,_,h=>absurd h (Nat.not_lt_zero t)
 | x::r,s,hp,t,h,hl=>by
   rw [firstK] at h
   cases hx:sLt x s<;>rw [hx] at h
   ·cases t with
    | zero=>simpa using hx
    | succ t=>
      have hm:r.getD t []∈r:=by
       have h2:t<r.length:=by simpa using hl
       rw [List.getD_eq_getElem?_getD,List.getElem?_eq_getElem h2];exact List.getElem_mem h2
      have:=(List.pairwise_cons.1 hp).1 _ hm
      simp only [List.getD_cons_succ]
      rw [sLt_no] at hx ⊢
      exact List.le_of_lt (List.lt_of_le_of_lt hx this)
   ·cases t with
    | zero=>simp at h
    | succ t=>simpa using firstK_ge r s (List.pairwise_cons.1 hp).2 t (by simp at h;omega) (by simpa using hl)
theorem bs_hasB (ws:List Str) (s:Str) (hi:incB ws=true) :
 Lib.bsGo (fun t=>sLt (ws.getD t []) s) ws.length 0 ws.length=firstK ws s:=by
 have hg : ∀f lo hi,hi≤ws.length→Lib.bsGo (fun t=>sLt (ws.getD t []) s) f lo hi=Lib.bsGo (fun t=>decide (t<firstK ws s)) f lo hi:=by
  intro f
  induction f with
  | zero=>intros;rfl
  | succ f ih=>
    intro lo hi hle
    unfold Lib.bsGo
    by_cases h:lo<hi
    ·rw [if_pos h,if_pos h]
     have he:sLt (ws.getD ((lo+hi)/2) []) s=decide ((lo+hi)/2<firstK ws s):=by
      by_cases hk:(lo+hi)/2<firstK ws s
      ·rw [firstK_lt _ _ _ hk,decide_eq_true hk]
      ·rw [firstK_ge _ _ (incB_pw ws ‹_›) _ (by omega) (by omega),decide_eq_false hk]
     simp only [he]
     rw [ih _ _ hle,ih _ _ (by omega)]
    ·rw [if_neg h,if_neg h]
 rw [hg _ _ _ (Nat.le_refl _)]
 exact Lib.bsGo_spec _ (firstK ws s) (fun t h=>by simpa using h) (fun t h=>by simpa using h) _ _ _ (by omega) (by omega) (firstK_le ws s)
theorem replace_dots : ∀s:Str,Lib.replaceK [46] [] (Lib.count s [46]) s=s.filter fun c=>!(c==46)
 | []=>rfl
 | c::l=>by
   have ih:=replace_dots l
   by_cases hc:c=46
   ·subst hc
    rw [Lib.count_cons_eq,Nat.add_comm,Lib.replaceK_hit [46] [] _ _ 0 (by rfl)]
    simpa using ih
   ·have hf:(c::l).filter (fun c=>!(c==46))=c::l.filter (fun c=>!(c==46)):=List.filter_cons_of_pos (by simpa using hc)
    rw [Lib.count_cons_ne c 46 l hc,hf]
    cases hk:Lib.count l [46] with
    | zero=>
      rw [hk] at ih
      show c::l=_
      rw [←ih];rfl
    | succ k=>
      rw [hk] at ih
      obtain⟨i,hi⟩:=Lib.index_of_count (s:=l) (old:=[46]) (by omega)
      rw [Lib.replaceK_hit [46] [] k l i hi] at ih
      have hi2:Lib.index (c::l) [46]=((i+1:Nat):Int):=by
       rw [Lib.index]
       have hp:([46]:Str).isPrefixOf (c::l)=false:=by
        simp [List.isPrefixOf]
        exact fun h=>hc h.symm
       rw [hp,hi]
       have : ((i:Int)== -1)=false:=by rw [beq_eq_false_iff_ne];omega
       rw [this];simp
      rw [Lib.replaceK_hit [46] [] k (c::l) (i+1) hi2,←ih]
      simp
theorem replaceAll_dots (s:Str):Lib.replaceAll s [46] []=s.filter fun c=>!(c==46):=by
 unfold Lib.replaceAll Lib.replace
 rw [if_neg (by decide)]
 have : Lib.replaceNum s [46] (-1)=Lib.count s [46]:=by unfold Lib.replaceNum;rw [if_pos (.inl (by decide))]
 rw [this,replace_dots]
theorem indexByte_find : ∀(s:Str) (c:UInt8),Lib.indexByte s c=if findK s c<s.length then (findK s c:Int) else -1
 | [],_=>by simp [Lib.indexByte,findK]
 | b::l,c=>by
   have ih:=indexByte_find l c
   simp only [Lib.indexByte,findK,List.length_cons]
   by_cases h:(b==c)=true
   ·simp [h]
   ·simp only [if_neg h,ih]
    by_cases h2:findK l c<l.length
    ·have : ((findK l c:Int)== -1)=false:=by simp
     rw [if_pos h2,if_pos (show findK l c+1<l.length+1 by omega),this]
     simp
    ·rw [if_neg h2,if_neg (show ¬findK l c+1<l.length+1 by omega)]
     rfl
end Go.Proofs.YtpmakcfjdkaegaaGreatDoor
namespace Go.Proofs.YtpmakcfjdkaegaaGreatDoor
open Go.RowKit RegP
structure SlT (P:Program) (T E:TypeId) (z:Value) (size bytes:Nat):Prop where
 ht:P.underlying T=some (.slice E)
 hi:(P.info? E).map (fun i=>(i.zero,i.size,i.bytes))=some (some z,size,bytes)
 hz:z.cells.size=size
 pos:0<size
section
variable {P:Program} {w w0 w1 w':World} {base e size n:Nat} {v z:Value} {xs:List Value} {T bytes:Nat}
theorem wpList_app {ops:Array Oper} {rest:List Oper} {o:Oper} {a:Act} {Q:Exit→Act→World→Prop} (hT:SlT P T e z size bytes) (hgd:o.guard=none) (s x:Operand)
 (ho:o.op=.call { callee:=.builtin .append,args:=#[s,x],argTypes:=#[T,T] })
 (v:Value) (n:Nat) (xs:List Value) (hs:a.eval s=v) (base:Nat) (hown:w0.ownsRow base e size v n xs) (us:List Value) (hu:us.length=size) (h1 : ∀u∈us,u.oneCell'=true)
 (hx:a.eval x=.slice (some ⟨w0.heap.size,0,none⟩) 1 1) (hn:n+1≤1099511627776) (hby:bytes≤128) (hbase:base≤w0.heap.size)
 (h : ∀v' w',w'.ownsRow base e size v' (n+1) (xs++us)→w0.grownBy w' v.ownBlock→(v'.ownBlock=v.ownBlock∨v'.ownBlock=some (w0.heap.size+1))→wpList P ops Q rest (a.put o.dst v') w') :
 wpList P ops Q (o::rest) a (w0.alloc (.cells us.toArray e)):=by
 cases hq:P.info? e with
 | none=>have:=hT.hi;rw [hq] at this;cases this
 | some i=>
   have hii:=hT.hi
   rw [hq] at hii
   simp only [Option.map_some,Option.some.injEq,Prod.mk.injEq] at hii
   obtain⟨hz,hsz,hbt⟩:=hii
   refine wpList_append_own_at (w0.alloc (.cells us.toArray e)) hgd s x T ho base e i z size bytes hT.ht hq hz hsz hbt hT.hz hT.pos v n xs hs (hown.alloc _) ⟨w0.heap.size,0,none⟩ 1 1 us hx (by omega) ?_ h1 ?_ ?_ ?_ ?_
   ·intro j u hj
    have hadd:(⟨w0.heap.size,0,none⟩:Addr).add j=⟨w0.heap.size,j,none⟩:=by unfold Addr.add;split<;>simp_all
    rw [hadd,cell_of_row _ _ j us.toArray e (0,0) (heap_alloc_new w0 _)]
    simpa using hj
   ·unfold maxLen;omega
   ·have : (n+1)*bytes≤1099511627776*128:=Nat.mul_le_mul hn hby
    omega
   ·simp;omega
   ·intro v' w' k1 k2 _ k3
    refine h v' w' k1 ⟨k2.os,k2.tape,k2.output,?_,?_⟩ ?_
    ·have:=k2.size;simp at this;omega
    ·intro k hk hne
     rw [k2.block k (by simp;omega) hne,Below.heap_alloc w0 _ k hk]
    ·rcases k3 with k3 | k3
     ·exact .inl k3
     ·exact .inr (by simpa using k3)
theorem wpList_apps {ops:Array Oper} {rest:List Oper} {o:Oper} {a:Act} {Q:Exit→Act→World→Prop} (hT:SlT P T e z size bytes) (hgd:o.guard=none) (s x:Operand)
 (ho:o.op=.call { callee:=.builtin .append,args:=#[s,x],argTypes:=#[T,T] })
 (v:Value) (n:Nat) (xs:List Value) (hs:a.eval s=v) (base:Nat) (hown:w.ownsRow base e size v n xs) (B:Nat) (A:Option Addr) (m c:Nat) (us:List Value) (hx:a.eval x=.slice A m c) (hr:Reads w B size A m us)
 (h1 : ∀u∈us,u.oneCell'=true) (hn:n+m≤1099511627776) (hby:bytes≤128) (hbase:base≤w.heap.size)
 (h : ∀v' w',w'.ownsRow base e size v' (n+m) (xs++us)→w.grownBy w' v.ownBlock→(v'.ownBlock=v.ownBlock∨v'.ownBlock=some w.heap.size)→wpList P ops Q rest (a.put o.dst v') w') :
 wpList P ops Q (o::rest) a w:=by
 cases hq:P.info? e with
 | none=>have:=hT.hi;rw [hq] at this;cases this
 | some i=>
   have hii:=hT.hi
   rw [hq] at hii
   simp only [Option.map_some,Option.some.injEq,Prod.mk.injEq] at hii
   obtain⟨hz,hsz,hbt⟩:=hii
   have hmul:(n+m)*bytes≤140737488355328:=by
    have : (n+m)*bytes≤1099511627776*128:=Nat.mul_le_mul hn hby
    omega
   have hml:n+m≤maxLen:=by unfold maxLen;omega
   rcases A with _ | ad
   ·have hm:m=0:=by
     rcases Nat.eq_zero_or_pos m with h0 | h0
     ·exact h0
     ·obtain⟨ad,h,_⟩:=hr.2 h0
      cases h
    subst hm
    have hn':us=[]:=List.eq_nil_of_length_eq_zero (by simpa using hr.1)
    subst hn'
    have hrun:(Builtin.append_ #[T,T] o.type #[v,.slice none 0 c]).run P w=.ok v w:=by
     rcases hown.2 with ⟨rfl,rfl⟩ | ⟨g,cap,cur,rfl,_,_,hnc,_⟩
     ·simp [Builtin.append_,run_underlying hT.ht,sizeOf,typeInfo,hq,Builtin.lenOf,Builtin.firstCells]
     ·simp [Builtin.append_,run_underlying hT.ht,sizeOf,typeInfo,hq,Builtin.lenOf,Builtin.firstCells,hnc,storeCells]
    refine wpList_plain hgd fun K hK=>?_
    unfold Oper.wp execOp
    simp only [ho,resolve,invoke,builtin,Sem.run_bind,Sem.run_pure,Result.andThen_ok,List.map_toArray,List.map_cons,List.map_nil,hs,hx,hrun]
    exact hK _ _ (h v w (by simpa using hown) (World.grownBy.refl w _) (.inl rfl))
   ·have hcells : ∀j u,us[j]? =some u→w.cell? (ad.add j)=some u:=by
     intro j u hu
     rcases Nat.eq_zero_or_pos m with h0 | h0
     ·subst h0
      have hn':us=[]:=List.eq_nil_of_length_eq_zero (by simpa using hr.1)
      subst hn'
      simp at hu
     ·obtain⟨ad',h,_,hc⟩:=hr.2 h0
      injection h with h
      subst h
      exact hc j u hu
    exact wpList_append_own_at w hgd s x T ho base e i z size bytes hT.ht hq hz hsz hbt hT.hz hT.pos v n xs hs hown ad m c us hx hr.1 hcells h1 hml hmul hbase (fun v' w' k1 k2 _ k3=>h v' w' k1 k2 k3)
theorem Below.own {B:Nat} {a:World} (hb:Below B a w) (hle:B≤w.heap.size) (hown:w.ownsRow base e size v n xs) (hB:B≤base) (hg:w.grownBy w' v.ownBlock):Below B a w':=
 hb.grown hg hle (fun k hk=>Nat.le_trans hB (hown.lt k hk).1)
end
theorem own_cast {w:World} {base e size n n':Nat} {v:Value} {xs xs':List Value} (h:w.ownsRow base e size v n xs) (hx:xs=xs') (hn:n=n'):w.ownsRow base e size v n' xs':=by rw [←hn,←hx];exact h
theorem own_sl {w:World} {base e size n:Nat} {v:Value} {xs:List Value} (h:w.ownsRow base e size v n xs) : ∃A c,v=.slice A n c∧n≤c∧Reads w w.heap.size size A n xs:=by
 rcases h.2 with ⟨rfl,rfl⟩ | ⟨g,cap,cur,rfl,_,_,hc,_⟩
 ·exact⟨none,0,rfl,Nat.le_refl _,Reads.of_own h⟩
 ·exact⟨_,cap,rfl,hc,Reads.of_own h⟩
section
variable {w w':World} {base g:Nat} {e:TypeId} {xs:List Value}
end
end Go.Proofs.YtpmakcfjdkaegaaGreatDoor
namespace Go.Proofs.YtpmakcfjdkaegaaGreatDoor
namespace Ax
open Go.RowKit
set_option maxRecDepth 100000
section
variable {P:Program} {f:FuncId} {fn:Func} {α:Type}
theorem FOk.of_calls {A:Args α} {pre:α→Prop} {v:α→PV} (hf:P.funcs[f]? =some fn) (hn:(fn.name=="runtime.NumGoroutine")=false) (hb:fn.body.isNone=false)
 (h : ∀a,pre a→∀(w:World) (e:Env) (vals:Array Value),FzW w e.fz→Rs w e (A.enc a) vals.toList→Calls P f vals w fun en w'=>∃u,en=.returned u∧(∀w e,R w e (v a) u)∧Below w.heap.size w w'):FOk P f (fsp A pre v):=by
 refine⟨⟨fn,hf,hn,hb⟩,fun args out hs hp w e vals hz hl=>?_⟩
 unfold fsp at hs
 split at hs
 ·rename_i a ha
  cases hs
  rw [A.ok _ _ ha] at hl
  refine (h a (hp _ (by simp)) w e vals hz hl).mono ?_
  rintro en w' ⟨u,rfl,hu,hb⟩
  exact⟨u,{ e with on:=fun _=>False,lv:=fun _=>False },rfl,hu _ _,.refl _,.of fun _ h=>h,fun k o hk=>by simp [AH.get] at hk,fun k hk=>.inl hk,fun k hk=>.inl hk,fun k hk=>.inl hk,fun k _ _ h1 h2=>absurd h1 h2,.of_below hb⟩
 ·cases hs
theorem FOk.of_row {A:Args α} {pre:α→Prop} {k:AtTy} {L:α→List k.Ty} {te:TypeId} (hk:k.flat=true) (hf:P.funcs[f]? =some fn) (hn:(fn.name=="runtime.NumGoroutine")=false) (hb:fn.body.isNone=false)
 (h : ∀a,pre a→∀(w:World) (e:Env) (vals:Array Value),FzW w e.fz→Rs w e (A.enc a) vals.toList→Calls P f vals w fun en w'=>∃u,en=.returned u∧w'.ownsRow w.heap.size te 1 u (L a).length ((L a).map k.val)∧Below w.heap.size w w') :
 FOk P f (fsp A pre (fun _=>.osl 0) fun a=>[(0,.own [k] (L a) te)]):=by
 refine⟨⟨fn,hf,hn,hb⟩,fun args out hs hp w e vals hz hl=>?_⟩
 unfold fsp at hs
 split at hs
 ·rename_i a ha
  cases hs
  rw [A.ok _ _ ha] at hl
  refine (h a (hp _ (by simp)) w e vals hz hl).mono ?_
  rintro en w' ⟨u,rfl,hu,hb⟩
  obtain⟨X,C,hu2,hX⟩ : ∃X C,u=.slice X (L a).length C∧((X=none∧L a=[]∧C=0)∨∃g cur,X=some ⟨g,0,none⟩∧w.heap.size≤g∧w'.heap[g]? =some (.cells cur te (0,0))∧cur.size=C∧((L a).length ≤C∧C≤maxLen)∧cur.toList.take (L a).length =(L a).map k.val):=by
   rcases hu.2 with ⟨rfl,h0⟩ | ⟨g,cap,cur,rfl,h1,h2,h3,h4,h5,h6⟩
   ·have : L a=[]:=List.eq_nil_of_length_eq_zero h0
    exact⟨none,0,by rw [this];rfl,.inl ⟨rfl,this,rfl⟩⟩
   ·exact⟨_,_,rfl,.inr ⟨g,cur,rfl,h1,h2,by simpa using h5,⟨h3,h4⟩,by simpa using h6⟩⟩
  have hget : ∀j o',AH.get [(0,Ob.own [k] (L a) te)] j=some o'→j=0∧o'=.own [k] (L a) te:=fun j o' hj=>by
   unfold AH.get at hj
   split at hj
   ·rename_i hkk;exact⟨(by simpa using hkk:0=j).symm,by cases hj;rfl⟩
   ·cases hj
  have hzl : ∀b,e.fz b→b<w.heap.size:=hz.lt
  refine⟨u,⟨fun _=>X,fun _=>C,fun _=>(L a).length,e.fz,fun j=>j=0,fun j=>j=0⟩,rfl,?_,⟨fun j h=>h.elim,fun j h=>h.elim,fun j h=>h.elim,fun j h=>h.elim,fun b h=>h⟩,.of fun _ h=>h,?_,fun j hj=>.inr ⟨Nat.zero_le _,by cases (show j=0 from hj);rfl⟩,?_,fun j h=>h.elim,fun i j b hi _ hj _ _ _=>(show i=0 from hi).trans (show j=0 from hj).symm,.of_below hb⟩
  ·unfold R;exact⟨rfl,hu2⟩
  ·intro j o hj
   obtain⟨rfl,rfl⟩:=hget j o hj
   refine⟨⟨rfl,?_⟩,rfl,fun _=>rfl⟩
   rcases hX with ⟨h1,h2,h3⟩ | ⟨g,cur,h1,h2,h3,h4,h5,h6⟩
   ·exact .inl ⟨h1,h2,h3⟩
   ·refine .inr ⟨g,cur,h1,fun hf=>absurd (hzl _ hf) (Nat.not_lt.2 h2),h3,by simpa using h4,h5,fun i x hx=>?_⟩
    have hil:=(List.getElem?_eq_some_iff.1 hx).1
    have hc:w'.cell? ⟨g,i,none⟩=some (k.val x):=by
     rw [cell_of_row _ g _ cur te _ h3]
     have:=congrArg (fun l=>l[i]?) h6
     simp only [List.getElem?_take,if_pos hil,List.getElem?_map,hx,Option.map_some] at this
     simpa using this
    unfold RE REs RE2
    refine⟨k.val x,by simpa using hc,?_⟩
    cases k with
    | r _=>cases hk
    | _=>unfold RA AtTy.val;rfl
  ·intro j hj
   cases (show j=0 from hj)
   refine .inr ⟨fun h=>h.elim,rfl,fun b ⟨x,h1,h2⟩=>?_⟩
   have h1:X=some x:=h1
   rcases hX with ⟨h3, -⟩ | ⟨g,cur,h3,h4,h5, -⟩
   ·rw [h3] at h1;cases h1
   ·rw [h3] at h1
    cases h1
    subst h2
    exact⟨row_lt h5,.inl h4⟩
 ·cases hs
theorem FOk.frz {A:Args α} {pre:α→Prop} {v v':α→PV} {eff:α→AH} (h:FOk P f (fsp A pre v eff)) (hd : ∀a,deep (eff a) 12 (v a)=v' a∧(v' a).idIn []=true):FOk P f (fsp A pre v'):=by
 refine⟨h.fn,fun args out hs hp w e vals hz hl=>?_⟩
 unfold fsp at hs
 split at hs
 ·rename_i a ha
  cases hs
  refine (h.run args ⟨[pre a],v a,eff a⟩ (by unfold fsp;rw [ha]) hp w e vals hz hl).mono ?_
  rintro en w' ⟨u,e',rfl,hP⟩
  have hfz':FzW w' e'.fz:=⟨fun b hb=>(hP.fz.fz b hb).elim (fun h=>Nat.lt_of_lt_of_le (hz.lt b h) hP.chg.size) (·.2),(hz.gl.chg hP.chg (fun b hb=>⟨hz.lt b hb,fun ⟨k,hk,_⟩=>hk.elim⟩)).mono hP.le.fz⟩
  have hsee:Sees w' e' (eff a):=⟨fun id o ho=>hP.eff id o ho,hfz',fun k k' b hk hk' hb hb'=>hP.dis k k' b hk (fun h=>h) hk' (fun h=>h) hb hb'⟩
  have hF:Frz w' e' (eff a) { e' with fz:=fun b=>e'.fz b∨w.heap.size≤b∧b<w'.heap.size }:=by
   refine⟨⟨fun _ h=>h,fun _ _=>rfl,fun _ _=>rfl,fun _ _=>rfl,fun b hb=>.inl hb⟩,fun id o b ho hg hb=>.inr ?_⟩
   rcases hP.nlv id ((hP.eff id o ho).2.2 hg) with h1 | ⟨-, -,h1⟩
   ·exact h1.elim
   ·exact⟨(h1 b hb).2.resolve_right fun ⟨j,hj,_⟩=>hj.elim,(h1 b hb).1⟩
  have hR:=deep_R hsee hF 12 (v a) u hP.val
  rw [(hd a).1] at hR
  have hrn:Rn id [] { e' with fz:=fun b=>e'.fz b∨w.heap.size≤b∧b<w'.heap.size } ⟨e'.adr,e'.cap,e'.len,fun b=>e'.fz b∨w.heap.size≤b∧b<w'.heap.size,fun _=>False,fun _=>False⟩:=⟨fun k hk=>absurd hk (by simp),fun _=>rfl,fun _=>rfl,fun _=>rfl,rfl⟩
  exact⟨u,_,rfl,R_rn hrn (v' a) u (hd a).2 (by rw [rn_id];exact hR),⟨fun k hk=>hk.elim,fun k hk=>hk.elim,fun k hk=>hk.elim,fun k hk=>hk.elim,fun b hb=>.inl (hP.le.fz b hb)⟩,
   ⟨fun b hb=>hb.elim (hP.fz.fz b) .inr,fun k b hk=>hk.elim⟩,fun k o hk=>by simp [AH.get] at hk,fun k hk=>hk.elim,fun k hk=>hk.elim,fun k hk=>hk.elim,fun k _ _ hk=>hk.elim,⟨hP.chg.os,hP.chg.tape,hP.chg.output,hP.chg.size,fun b hb _=>hP.chg.block b hb fun ⟨k,hk,_⟩=>hk.elim⟩⟩
 ·cases hs
def FSpec.or (S T:FSpec):FSpec:=fun l=>match S l with | some o=>some o | none=>T l
theorem FOk.or {S T:FSpec} (hS:FOk P f S) (hT:FOk P f T):FOk P f (S.or T):=⟨hS.fn,fun l out h hp=>by
 unfold FSpec.or at h
 split at h
 ·rename_i hs;cases h;exact hS.run l _ hs hp
 ·exact hT.run l out h hp⟩
end
theorem ba_list (l:List UInt8):(ByteArray.mk l.toArray).data.toList =l:=rfl
theorem ba_size (l:List UInt8):(ByteArray.mk l.toArray).size =l.length:=by simp [ByteArray.size]
theorem Rs1 {w:World} {e:Env} {a:PV} {vs:List Value} (h:Rs w e [a] vs) : ∃u,vs=[u]∧R w e a u:=by
 unfold Rs at h
 obtain⟨u,us,rfl,h1,h2⟩:=h
 unfold Rs at h2
 exact⟨u,by rw [h2],h1⟩
theorem Rs2 {w:World} {e:Env} {a b:PV} {vs:List Value} (h:Rs w e [a,b] vs) : ∃u v,vs=[u,v]∧R w e a u∧R w e b v:=by
 unfold Rs at h
 obtain⟨u,us,rfl,h1,h2⟩:=h
 obtain⟨v,rfl,h3⟩:=Rs1 h2
 exact⟨u,v,rfl,h1,h3⟩
theorem Rs3 {w:World} {e:Env} {a b c:PV} {vs:List Value} (h:Rs w e [a,b,c] vs) : ∃u v x,vs=[u,v,x]∧R w e a u∧R w e b v∧R w e c x:=by
 unfold Rs at h
 obtain⟨u,us,rfl,h1,h2⟩:=h
 obtain⟨v,x,rfl,h3,h4⟩:=Rs2 h2
 exact⟨u,v,x,rfl,h1,h3,h4⟩
theorem arr_of {vals:Array Value} {l:List Value} (h:vals.toList=l):vals=l.toArray:=by rw [←h]
def sp_index (p:Pr):FSpec:=fsp (ac aS (a1 aC)) (fun (_,c)=>p.inK .u8 c) (fun (s,c)=>.i .i64 (findI s (u8 c)))
theorem ok_index:FOk Tryz.prog 214 (sp_index std):=by
 refine FOk.of_calls Tryz.func214 rfl rfl fun ⟨s,c⟩ hp w e vals hz hl=>?_
 obtain⟨u,v,hv,h1,h2⟩:=Rs2 hl
 rw [arr_of hv]
 have h1:u=.string ⟨s.toArray⟩:=by unfold R at h1;exact h1
 have h2:v=.int .u8 c:=by unfold R at h2;exact h2
 subst h1 h2
 refine (Tryz.strings_IndexByte ⟨s.toArray⟩ c w).mono ?_
 rintro en w' ⟨rfl,rfl⟩
 refine⟨_,rfl,fun w e=>?_,Below.refl _ _⟩
 rw [ba_list,indexByte_find,←findI_K]
 unfold R
 rfl
def lowU (s:List UInt8):List UInt8:=Lib.toLowerD s
def sp_toLower (p:Pr):FSpec:=fsp (a1 aS) (fun s=>p.leP (p.lenS s) 1073741824) (fun s=>.s (lowU s))
theorem ok_toLower:FOk Tryz.prog 272 (sp_toLower std):=by
 refine FOk.of_calls Tryz.func272 rfl rfl fun s hp w e vals hz hl=>?_
 obtain⟨u,hv,h1⟩:=Rs1 hl
 rw [arr_of hv]
 have h1:u=.string ⟨s.toArray⟩:=by unfold R at h1;exact h1
 subst h1
 have hp:(s.length:Int)≤1073741824:=hp
 have hg:=hz.gl.gl
 refine (Tryz.strings_ToLower_any ⟨s.toArray⟩ w (by rw [ba_size];omega) hg.2.1 hg.2.2).mono ?_
 rintro en w' ⟨rfl,hb⟩
 exact⟨_,rfl,fun w e=>by unfold R;rfl,hb⟩
def repS (s:List UInt8) (n:Int):List UInt8:=Lib.repeatL s n.toNat
def sp_repeat (p:Pr):FSpec:=fsp (ac aS (a1 aI)) (fun (s,n)=>p.leP (p.lenS s) 1073741824∧p.leP 0 n∧p.leP n 65536) (fun (s,n)=>.s (repS s n))
theorem ok_repeat:FOk Tryz.prog 220 (sp_repeat std):=by
 refine FOk.of_calls Tryz.func220 rfl rfl fun ⟨s,n⟩ hp w e vals hz hl=>?_
 obtain⟨u,v,hv,h1,h2⟩:=Rs2 hl
 rw [arr_of hv]
 have h1:u=.string ⟨s.toArray⟩:=by unfold R at h1;exact h1
 have h2:v=.int .i64 n:=by unfold R at h2;exact h2
 subst h1 h2
 obtain⟨p1,p2,p3⟩:(s.length:Int)≤1073741824∧0≤n∧n≤65536:=hp
 obtain⟨N,rfl⟩:=Int.eq_ofNat_of_zero_le p2
 have hm:s.length*N≤1073741824*65536:=Nat.mul_le_mul (by omega) (by omega)
 refine (Tryz.strings_Repeat ⟨s.toArray⟩ N w (by omega) (by rw [ba_size];omega)).mono ?_
 rintro en w' ⟨rfl,hb⟩
 exact⟨_,rfl,fun w e=>by unfold R;rfl,hb⟩
def replS (s old new:List UInt8):List UInt8:=Lib.replaceAll s old new
def sp_replace (p:Pr):FSpec:=fsp (ac aS (ac aS (a1 aS))) (fun (s,old,new)=>p.leP (p.lenS s) 1073741824∧p.leP 1 (p.lenS old)∧new=[]) (fun (s,old,new)=>.s (replS s old new))
theorem ok_replace:FOk Tryz.prog 218 (sp_replace std):=by
 refine FOk.of_calls Tryz.func218 rfl rfl fun ⟨s,o,n⟩ hp w e vals hz hl=>?_
 obtain⟨u,v,x,hv,h1,h2,h3⟩:=Rs3 hl
 rw [arr_of hv]
 have h1:u=.string ⟨s.toArray⟩:=by unfold R at h1;exact h1
 have h2:v=.string ⟨o.toArray⟩:=by unfold R at h2;exact h2
 have h3:x=.string ⟨n.toArray⟩:=by unfold R at h3;exact h3
 subst h1 h2 h3
 obtain⟨p1,p2,rfl⟩:(s.length:Int)≤1073741824∧1≤(o.length:Int)∧n=[]:=hp
 obtain⟨m,hm⟩:=hz.gl.gl.1
 refine (Tryz.strings_ReplaceAll ⟨s.toArray⟩ ⟨o.toArray⟩ ⟨([]:List UInt8).toArray⟩ m w (by rw [ba_size];omega) hm (by rw [ba_size];omega) (by simp [ByteArray.size];omega)).mono ?_
 rintro en w' ⟨rfl,hb⟩
 exact⟨_,rfl,fun w e=>by unfold R;rfl,hb⟩
def fstI (ws:List (List UInt8)) (s:List UInt8):Int:=firstK ws s
def sp_search (p:Pr):FSpec:=fsp (ac aW (a1 aS)) (fun (ws,_)=>incB ws=true∧p.leP (p.len ws) 1073741824) (fun (ws,s)=>.tup [.i .i64 (fstI ws s),.b (hasB ws s)])
theorem ok_search:FOk Tryz.prog 276 (sp_search std):=by
 refine FOk.of_calls Tryz.func276 rfl rfl fun ⟨ws,s⟩ hp w e vals hz hl=>?_
 obtain⟨u,v,hv,h1,h2⟩:=Rs2 hl
 rw [arr_of hv]
 have h2:v=.string ⟨s.toArray⟩:=by unfold R at h2;exact h2
 obtain⟨X,C,hu,hC,hX⟩ : ∃X C,u=.slice X ws.length C∧ws.length≤C∧∀i x,ws[i]? =some x→∃b o,X=some ⟨b,o,none⟩∧e.fz b∧RE w e.fz [.s] b (o+i*1) x:=by unfold R at h1;exact h1
 subst hu h2
 obtain⟨hi,hn⟩:incB ws=true∧(ws.length:Int)≤1073741824:=hp
 have hbs:=bs_hasB ws s hi
 have hdef:hasB ws s=(ws[firstK ws s]? ==some s):=rfl
 have hR : ∀w e,R w e (.tup [.i .i64 (fstI ws s),.b (hasB ws s)]) (.tuple #[.int .i64 (firstK ws s:Int),.bool (hasB ws s)]):=fun w e=>by
  simp [R,Rs,fstI]
 rcases Nat.eq_zero_or_pos ws.length with h0 | h0
 ·have h:=Any2.slices_BinarySearch_string_empty Tryz.searchS X C ⟨s.toArray⟩ w
  rw [h0]
  refine Calls.mono h ?_
  rintro en w' ⟨rfl,rfl⟩
  have : ws=[]:=List.eq_nil_of_length_eq_zero h0
  subst this
  exact⟨_,rfl,hR,Below.refl _ _⟩
 ·obtain⟨b,o,hX0,hfb, -⟩:=hX 0 _ (List.getElem?_eq_getElem h0)
  subst hX0
  have h:=Any2.slices_BinarySearch_string Tryz.searchS b o ws.length C (fun t=>⟨(ws.getD t []).toArray⟩) ⟨s.toArray⟩ w (by omega) (fun j hj=>by
   obtain⟨b',o',h3, -,h4⟩:=hX j _ (List.getElem?_eq_getElem hj)
   cases h3
   unfold RE REs RE2 at h4
   obtain⟨x,h5,h6⟩:=h4
   unfold RA at h6
   rw [h6,Nat.mul_one] at h5
   rw [h5]
   simp [List.getD_eq_getElem?_getD,List.getElem?_eq_getElem hj])
  have hlt : ∀x:List UInt8,(ByteArray.mk x.toArray).toList =x:=fun x=>by rw [Lib.toList_data]
  simp only [hlt] at h
  have hbs':Lib.bsGo (fun t=>Op.bytesLess (ws.getD t []) s) ws.length 0 ws.length=firstK ws s:=hbs
  rw [hbs'] at h
  refine Calls.mono h ?_
  rintro en w' ⟨rfl,q,rfl⟩
  refine⟨_,rfl,?_,⟨rfl,rfl,rfl,Nat.le_refl _,fun _ _=>rfl⟩⟩
  have hd:decide (firstK ws s<ws.length∧ByteArray.mk (ws.getD (firstK ws s) []).toArray =ByteArray.mk s.toArray)=hasB ws s:=by
   rw [hdef,Bool.eq_iff_iff]
   simp only [decide_eq_true_eq,beq_iff_eq,List.getD_eq_getElem?_getD]
   constructor
   ·rintro ⟨h1,h2⟩
    have h3:=congrArg (fun x:ByteArray=>x.data.toList) h2
    simp only [List.getElem?_eq_getElem h1,Option.getD_some] at h3
    rw [List.getElem?_eq_getElem h1,h3]
   ·intro h1
    obtain⟨h2,h3⟩:=List.getElem?_eq_some_iff.1 h1
    exact⟨h2,by rw [h1];rfl⟩
  rw [hd]
  exact hR
end Ax
end Go.Proofs.YtpmakcfjdkaegaaGreatDoor
namespace Go.Proofs.YtpmakcfjdkaegaaGreatDoor
open Go.RowKit
set_option maxHeartbeats 1000000
set_option maxRecDepth 100000
theorem i64T:SlT Tryz.prog 22 2 (.int .i64 0) 1 8:=⟨Tryz.underlying22,by kernel_rfl,rfl,by decide⟩
theorem strT:SlT Tryz.prog 25 9 (.string ⟨#[]⟩) 1 16:=⟨Tryz.underlying25,by kernel_rfl,rfl,by decide⟩
theorem clone_i64 (A:Option Addr) (c n:Nat) (xs:List Value) (w:World) (h:Reads w w.heap.size 1 A n xs) (h1 : ∀u∈xs,u.oneCell'=true) (hn:n≤2 ^ 38) (h0:A=none→n=0) :
 Calls Tryz.prog 136 #[.slice A n c] w fun e w'=>∃v,e=.returned v∧w'.ownsRow w.heap.size 2 1 v n xs∧Below w.heap.size w w':=by
 have q22 : ∀(w:World) (a:Option Addr) (n c n' c':Nat),(binOp .eql 22 (.slice a n c) (.slice none n' c')).run Tryz.prog w=.ok (.bool a.isNone) w:=fun w a n c n' c'=>Lib.run_eql_slice_nil w _ _ a n c n' c' Tryz.underlying22
 have hr:Reads (w.alloc (.cells #[] 2)) w.heap.size 1 A n xs:=h.alloc (Nat.le_refl _) _
 have own0:=World.ownsRow_lit (base:=w.heap.size) (size:=1) (e:=2) w #[] 0 (Nat.le_refl _) (by unfold maxLen;omega) rfl
 have hb0:=(Below.refl w.heap.size w).alloc (Nat.le_refl _) (.cells #[] 2)
 cases A with
 | none=>
   obtain rfl:=h0 rfl
   have hx:xs=[]:=List.eq_nil_of_length_eq_zero (by simpa using h.1)
   subst hx
   clear hr own0 hb0 h
   go_enter Tryz.func136,Tryz.ntmps136
   go_wp2_with (fail)
   go_ret
   exact⟨_,rfl,World.ownsRow_nil _ _ _ _,Below.refl _ _⟩
 | some ad=>
   clear h h0
   go_enter Tryz.func136,Tryz.ntmps136
   go_wp2_with (at_builtin;refine wpList_apps i64T rfl (.tmp 5) (.tmp 6) rfl _ 0 [] rfl w.heap.size own0 w.heap.size (some ad) n c xs rfl hr h1 (by omega) (by omega) hb0.size ?_;intro v1 w1 own1 hg1 _)
   go_ret
   exact⟨_,rfl,own_cast own1 (by simp) (by omega),Below.own hb0 hb0.size own0 (Nat.le_refl _) hg1⟩
theorem clone_str (A:Option Addr) (c n:Nat) (xs:List Value) (w:World) (h:Reads w w.heap.size 1 A n xs) (h1 : ∀u∈xs,u.oneCell'=true) (hn:n≤2 ^ 38) (h0:A=none→n=0) :
 Calls Tryz.prog 189 #[.slice A n c] w fun e w'=>∃v,e=.returned v∧w'.ownsRow w.heap.size 9 1 v n xs∧Below w.heap.size w w':=by
 have q22 : ∀(w:World) (a:Option Addr) (n c n' c':Nat),(binOp .eql 25 (.slice a n c) (.slice none n' c')).run Tryz.prog w=.ok (.bool a.isNone) w:=fun w a n c n' c'=>Lib.run_eql_slice_nil w _ _ a n c n' c' Tryz.underlying25
 have hr:Reads (w.alloc (.cells #[] 9)) w.heap.size 1 A n xs:=h.alloc (Nat.le_refl _) _
 have own0:=World.ownsRow_lit (base:=w.heap.size) (size:=1) (e:=9) w #[] 0 (Nat.le_refl _) (by unfold maxLen;omega) rfl
 have hb0:=(Below.refl w.heap.size w).alloc (Nat.le_refl _) (.cells #[] 9)
 cases A with
 | none=>
   obtain rfl:=h0 rfl
   have hx:xs=[]:=List.eq_nil_of_length_eq_zero (by simpa using h.1)
   subst hx
   clear hr own0 hb0 h
   go_enter Tryz.func189,Tryz.ntmps189
   go_wp2_with (fail)
   go_ret
   exact⟨_,rfl,World.ownsRow_nil _ _ _ _,Below.refl _ _⟩
 | some ad=>
   clear h h0
   go_enter Tryz.func189,Tryz.ntmps189
   go_wp2_with (at_builtin;refine wpList_apps strT rfl (.tmp 5) (.tmp 6) rfl _ 0 [] rfl w.heap.size own0 w.heap.size (some ad) n c xs rfl hr h1 (by omega) (by omega) hb0.size ?_;intro v1 w1 own1 hg1 _)
   go_ret
   exact⟨_,rfl,own_cast own1 (by simp) (by omega),Below.own hb0 hb0.size own0 (Nat.le_refl _) hg1⟩
namespace Ax
theorem SlR.reads {w:World} {e:Env} {k:AtTy} (hk:k.flat=true) {L:List k.Ty} {u:Value} (hz : ∀b,e.fz b→b<w.heap.size) (h:R w e (.rsl [k] L) u) :
 ∃A c,u=.slice A L.length c∧Reads w w.heap.size 1 A L.length (L.map k.val)∧∀x∈L.map k.val,x.oneCell'=true:=by
 obtain⟨X,C,hu,hC,hX⟩ : ∃X C,u=.slice X L.length C∧L.length≤C∧∀i x,L[i]? =some x→∃b o,X=some ⟨b,o,none⟩∧e.fz b∧RE w e.fz [k] b (o+i*1) x:=by unfold R at h;exact h
 have hv : ∀x v,RA w e.fz k x v→v=k.val x:=fun x v h=>by
  cases k with
  | r _=>cases hk
  | _=>unfold RA at h;exact h
 refine⟨X,C,hu,⟨by simp,fun h0=>?_⟩,fun x hx=>?_⟩
 ·obtain⟨b,o,hX0,hfb, -⟩:=hX 0 _ (List.getElem?_eq_getElem h0)
  subst hX0
  refine⟨_,rfl,hz b hfb,fun j x hj=>?_⟩
  rw [List.getElem?_map,Option.map_eq_some_iff] at hj
  obtain⟨y,hy,rfl⟩:=hj
  obtain⟨b',o',h3, -,h4⟩:=hX j _ hy
  cases h3
  unfold RE REs RE2 at h4
  obtain⟨x,h5,h6⟩:=h4
  rw [hv _ _ h6,Nat.mul_one] at h5
  have hadd:(⟨b,o,none⟩:Addr).add j=⟨b,o+j,none⟩:=by unfold Addr.add;split<;>simp_all
  rw [hadd]
  exact h5
 ·obtain⟨y, -,rfl⟩:=List.mem_map.1 hx
  cases k with
  | r _=>cases hk
  | _=>rfl
theorem SlR.none {w:World} {e:Env} {k:AtTy} {L:List k.Ty} {c:Nat} (h:R w e (.rsl [k] L) (.slice .none L.length c)):L.length=0:=by
 obtain⟨X,C,hu,hC,hX⟩ : ∃X C,Value.slice .none L.length c=.slice X L.length C∧L.length≤C∧∀i x,L[i]? =some x→∃b o,X=some ⟨b,o,.none⟩∧e.fz b∧RE w e.fz [k] b (o+i*1) x:=by unfold R at h;exact h
 cases hu
 cases L with
 | nil=>rfl
 | cons x r=>obtain⟨b,o,h1, -⟩:=hX 0 x rfl;cases h1
def sp_cloneN (p:Pr):FSpec:=fsp (a1 aN) (fun l=>p.leP (p.len l) 1073741824) (fun _=>.osl 0) fun l=>[(0,.own [.i .i64] l 2)]
theorem ok_cloneN:FOk Tryz.prog 136 (sp_cloneN std):=by
 refine FOk.of_row (k:=.i .i64) (L:=fun l=>l) rfl Tryz.func136 rfl rfl fun l hp w e vals hz hl=>?_
 obtain⟨u,hv,h1⟩:=Rs1 hl
 rw [arr_of hv]
 obtain⟨A,c,rfl,h2,h3⟩:=SlR.reads (k:=.i .i64) rfl hz.lt h1
 have hp:(l.length:Int)≤1073741824:=hp
 exact clone_i64 A c _ _ w h2 h3 (by omega) fun h=>by subst h;exact SlR.none (k:=.i .i64) h1
def sp_cloneW (p:Pr):FSpec:=fsp (a1 aW) (fun l=>p.leP (p.len l) 1073741824) (fun _=>.osl 0) fun l=>[(0,.own [.s] l 9)]
theorem ok_cloneW:FOk Tryz.prog 189 (sp_cloneW std):=by
 refine FOk.of_row (k:=.s) (L:=fun l=>l) rfl Tryz.func189 rfl rfl fun l hp w e vals hz hl=>?_
 obtain⟨u,hv,h1⟩:=Rs1 hl
 rw [arr_of hv]
 obtain⟨A,c,rfl,h2,h3⟩:=SlR.reads (k:=.s) rfl hz.lt h1
 have hp:(l.length:Int)≤1073741824:=hp
 exact clone_str A c _ _ w h2 h3 (by omega) fun h=>by subst h;exact SlR.none (k:=.s) h1
end Ax
end Go.Proofs.YtpmakcfjdkaegaaGreatDoor
namespace Go.Proofs.YtpmakcfjdkaegaaGreatDoor
namespace Ax
set_option maxRecDepth 100000
set_option maxHeartbeats 2000000
def adjB {α:Type} (r:α→α→Bool):List α→Bool
 | a::b::l=>r a b&&adjB r (b::l)
 | _=>true
theorem adj_step {α:Type} {r:α→α→Bool} {L:List α} {k:Int} (h1:1≤k) (h2:k<L.length) (d:α):adjB r (L.drop (k-1).toNat)=(r (L.getD (k-1).toNat d) (L.getD k.toNat d)&&adjB r (L.drop (k+1-1).toNat)):=by
 have e1:L.drop (k-1).toNat =L.getD (k-1).toNat d::L.drop k.toNat:=by
  have:=dc (L:=L) (a:=k-1) (by omega) (by omega) d
  rw [show k-1+1=k from by omega] at this
  exact this
 have e2:L.drop k.toNat=L.getD k.toNat d::L.drop (k+1).toNat :=dc (L:=L) (a:=k) (by omega) (by omega) d
 rw [show k+1-1=k from by omega,e1,e2,adjB]
theorem adj_end {α:Type} {r:α→α→Bool} {L:List α} {k:Int} (h2:(L.length:Int)≤k):adjB r (L.drop (k-1).toNat)=true:=by
 have : (L.drop (k-1).toNat).length ≤1:=by rw [List.length_drop];omega
 match hL:L.drop (k-1).toNat,this with
 | [],_=>rfl
 | [_],_=>rfl
 | _::_::_,h=>simp at h
theorem adj_some (q:UInt8) : ∀s:List UInt8,pileFrom (some q) s=(s.all tileB&&adjB leB (q::s))
 | []=>rfl
 | a::r=>by
   rw [pileFrom,adj_some a r,adjB,List.all_cons]
   cases tileB a<;>cases leB q a<;>cases r.all tileB<;>simp
theorem pile_adj (s:List UInt8):pileB s=(decide (s.length≤120)&&(s.all tileB&&adjB leB s)):=by
 unfold pileB
 rw [Bool.and_comm]
 congr 1
 cases s with
 | nil=>rfl
 | cons a r=>rw [pileFrom,adj_some,List.all_cons,Bool.and_assoc]
theorem sm_some (q:UInt8) : ∀s:List UInt8,smFrom (some q) s=(adjB (fun a b=>decide (a.toNat<b.toNat)) (q::s)&&s.all smallB)
 | []=>rfl
 | a::r=>by
   rw [smFrom,sm_some a r,adjB,List.all_cons]
   cases smallB a<;>simp [aftB,Bool.and_assoc]
theorem sm_adj (s:List UInt8):smFrom none s=(adjB (fun a b=>decide (a.toNat<b.toNat)) s&&s.all smallB):=by
 cases s with
 | nil=>rfl
 | cons a r=>
   rw [smFrom,sm_some,List.all_cons]
   cases smallB a<;>simp [aftB]
theorem lex_some (q:List UInt8) : ∀s:List (List UInt8),lexFrom (some q) s=(adjB sLt (q::s)&&s.all longB)
 | []=>rfl
 | a::r=>by
   rw [lexFrom,lex_some a r,adjB,List.all_cons]
   cases longB a<;>cases sLt q a<;>simp
theorem lex_adj (s:List (List UInt8)):lexFrom none s=(adjB sLt s&&s.all longB):=by
 cases s with
 | nil=>rfl
 | cons a r=>
   rw [lexFrom,lex_some,List.all_cons]
   cases longB a<;>simp
theorem inc_adj : ∀s:List (List UInt8),incB s=adjB sLt s
 | []=>rfl
 | [_]=>rfl
 | a::b::r=>by rw [incB,adjB,inc_adj (b::r)]
theorem tb_get (l:List UInt8) (k:Int):std.get 0 (std.toB l) k=std.byte l k:=by
 show (toBl l).getD k.toNat 0=_
 unfold toBl
 rw [List.getD_eq_getElem?_getD,List.getElem?_map,sd_byte,List.getD_eq_getElem?_getD]
 cases l[k.toNat]? <;>rfl
theorem tb_len (l:List UInt8):std.len (std.toB l)=l.length:=by simp [toBl]
def sp_i_small (p:Pr):FSpec:=fsp (a1 aC) (fun n=>True) (fun n=>.b (inR n 97 122))
theorem ok_i_small:FOk Tryz.prog 215 (sp_i_small std):=by
 refine FOk.go (c:=cx std [] [] 0) (cx_ok .nil .nil) mixed Tryz.func215 rfl rfl rfl (by kernel_rfl) ?_
 rintro n hp
 refine⟨rfl,?_⟩
 generalize hP:std=p
 generalize hB0:inR=B0
 cbv
 repeat' first
  | (refine fun (_:Unit)=>?_;cbv)
  | (refine And.intro (fun h=>?_) (fun h=>?_)<;>cbv)
  | (refine And.intro ?_ ?_)
  | (refine Or.inl (fun (_:Unit)=>?_);cbv)
 all_goals subst hP hB0
 all_goals try exact fin
 all_goals (simp [std,inR] at * <;>first | lia | (simp_all;done))
def sp_i_capital (p:Pr):FSpec:=fsp (a1 aC) (fun n=>True) (fun n=>.b (inR n 65 90))
theorem ok_i_capital:FOk Tryz.prog 216 (sp_i_capital std):=by
 refine FOk.go (c:=cx std [] [] 0) (cx_ok .nil .nil) mixed Tryz.func216 rfl rfl rfl (by kernel_rfl) ?_
 rintro n hp
 refine⟨rfl,?_⟩
 generalize hP:std=p
 generalize hB0:inR=B0
 cbv
 repeat' first
  | (refine fun (_:Unit)=>?_;cbv)
  | (refine And.intro (fun h=>?_) (fun h=>?_)<;>cbv)
  | (refine And.intro ?_ ?_)
  | (refine Or.inl (fun (_:Unit)=>?_);cbv)
 all_goals subst hP hB0
 all_goals try exact fin
 all_goals (simp [std,inR] at * <;>first | lia | (simp_all;done))
def sp_i_within (p:Pr):FSpec:=fsp (ac aI (ac aI (a1 aI))) (fun (n,lo,hi)=>True) (fun (n,lo,hi)=>.b (inR n lo hi))
theorem ok_i_within:FOk Tryz.prog 101 (sp_i_within std):=by
 refine FOk.go (c:=cx std [] [] 0) (cx_ok .nil .nil) mixed Tryz.func101 rfl rfl rfl (by kernel_rfl) ?_
 rintro ⟨n,lo,hi⟩ hp
 dsimp only at hp
 refine⟨rfl,?_⟩
 generalize hP:std=p
 generalize hB0:inR=B0
 cbv
 repeat' first
  | (refine fun (_:Unit)=>?_;cbv)
  | (refine And.intro (fun h=>?_) (fun h=>?_)<;>cbv)
  | (refine And.intro ?_ ?_)
  | (refine Or.inl (fun (_:Unit)=>?_);cbv)
 all_goals subst hP hB0
 all_goals try exact fin
 all_goals (simp [std,inR] at * <;>first | lia | (simp_all;done))
theorem small_byte (s:List UInt8) (k:Int):inR (std.byte s k) 97 122=smallB (s.getD k.toNat 0):=rfl
theorem cap_byte (s:List UInt8) (k:Int):inR (std.byte s k) 65 90=capB (s.getD k.toNat 0):=rfl
def plcI (c:Int):Int:=if c=63 then 0 else if inR c 97 122=true then c-96 else -1
def tiS (s:List UInt8):Bool:=s.all tileB
theorem plc_tile (s:List UInt8) (k:Int):tileB (s.getD k.toNat 0)=decide (0≤plcI (std.byte s k)):=by
 show _=decide (0≤plcI ((s.getD k.toNat 0).toNat : Int))
 generalize s.getD k.toNat 0=c
 unfold tileB plcI inR smallB
 have e:(c==63)=decide ((c.toNat:Int)=63):=by
  rw [Bool.eq_iff_iff,beq_iff_eq,decide_eq_true_eq]
  constructor
  ·rintro rfl;rfl
  ·intro h;exact UInt8.toNat_inj.1 (by show c.toNat=63;omega)
 rw [e]
 by_cases h:(c.toNat:Int)=63
 ·rw [if_pos h,decide_eq_true h];rfl
 ·rw [if_neg h,decide_eq_false h,Bool.false_or]
  by_cases h2:97≤(c.toNat:Int)∧(c.toNat:Int)≤122
  ·rw [decide_eq_true h2.1,decide_eq_true h2.2,if_pos (by rfl),decide_eq_true (by omega)];rfl
  ·have : (decide (97≤(c.toNat:Int))&&decide ((c.toNat:Int)≤122))=false:=by
    rw [Bool.eq_false_iff];intro h3;simp only [Bool.and_eq_true,decide_eq_true_eq] at h3;exact h2 h3
   rw [this,if_neg (by simp)];rfl
theorem plc_no {s:List UInt8} {k:Int} (h:std.ltI (plcI (std.byte s k)) 0=true):tileB (s.getD k.toNat 0)=false:=by
 rw [plc_tile,decide_eq_false];have:=lt_of h;omega
theorem plc_yes {s:List UInt8} {k:Int} (h:std.ltI (plcI (std.byte s k)) 0=false):tileB (s.getD k.toNat 0)=true:=by
 rw [plc_tile,decide_eq_true];exact ge_of h
def riseB (s:List UInt8):Bool:=adjB (fun a b=>decide (a.toNat<b.toNat)) s&&s.all smallB
def smS (s:List UInt8):Bool:=s.all smallB
def sp_i_onlySmall (p:Pr):FSpec:=fsp (a1 aS) (fun s=>p.ltM (p.lenS s)) (fun s=>.b (smS s))
theorem ok_i_onlySmall:FOk Tryz.prog 263 (sp_i_onlySmall std):=by
 refine FOk.go (c:=cx std [(215,sp_i_small std)] [] 0) (cx_ok (.cons ok_i_small .nil) .nil) mixed Tryz.func263 rfl rfl rfl (by kernel_rfl) ?_
 rintro s hp
 refine⟨rfl,?_⟩
 unfold sp_i_small
 obtain⟨H,hH⟩ : ∃H:Hd (Int),H=⟨fun k=>0≤k∧k≤s.length∧smS s=smS (s.drop k.toNat),fun k=>(s.length-k).toNat,(· < ·)⟩:=⟨_,rfl⟩
 have hl : ∀m n,H.lt m n→m<n:=by subst hH;exact fun _ _ h=>h
 generalize hP:std=p
 generalize hB0:smS=B0
 generalize hB1:inR=B1
 cbv
 repeat' first
  | (refine fun (_:Unit)=>?_;cbv)
  | (refine Or.inr ⟨9,[],[.s 8 (.i .i64)],[],[],H,rfl,hl,?_,fun (k:Int) hk=>?_⟩<;>cbv)
  | (refine And.intro (fun h=>?_) (fun h=>?_)<;>cbv)
  | (refine And.intro ?_ ?_)
 all_goals subst hP hB0 hB1 hH
 all_goals clear hl
 all_goals try dsimp only at hk
 all_goals try dsimp only
 all_goals try exact fin
 all_goals obtain⟨q0,q1,e⟩:=hk
 all_goals (try rw [tb_get,small_byte] at h)
 all_goals (try rw [tb_len] at *)
 all_goals have hp:(s.length:Int)≤274877906944:=hp
 ·rw [e,dc q0 (lt_of (by assumption)) 0,smS,List.all_cons,h];rfl
 ·have h2:k<(s.length:Int):=lt_of (by assumption)
  refine⟨by show 0≤k+1;omega,by show k+1≤(s.length:Int);omega,?_⟩
  rw [e,dc q0 h2 0,smS,List.all_cons,h];rfl
 ·rw [e,dn (ge_of (by assumption))];rfl
def sp_i_IsWord (p:Pr):FSpec:=fsp (a1 aS) (fun s=>p.ltM (p.lenS s)) (fun s=>.b (isWordB s))
theorem ok_i_IsWord:FOk Tryz.prog 264 (sp_i_IsWord std):=by
 refine FOk.go (c:=cx std [(263,sp_i_onlySmall std)] [] 0) (cx_ok (.cons ok_i_onlySmall .nil) .nil) mixed Tryz.func264 rfl rfl rfl (by kernel_rfl) ?_
 rintro s hp
 refine⟨rfl,?_⟩
 unfold sp_i_onlySmall
 generalize hP:std=p
 generalize hB0:isWordB=B0
 generalize hB1:smS=B1
 cbv
 repeat' first
  | (refine fun (_:Unit)=>?_;cbv)
  | (refine And.intro (fun h=>?_) (fun h=>?_)<;>cbv)
  | (refine And.intro ?_ ?_)
  | (refine Or.inl (fun (_:Unit)=>?_);cbv)
 all_goals subst hP hB0 hB1
 all_goals try exact fin
 ·unfold isWordB inR smS;simp at *;intros;omega
 all_goals (unfold isWordB inR;simp at *;intros;omega)
def sp_i_isLong (p:Pr):FSpec:=fsp (a1 aS) (fun s=>p.ltM (p.lenS s)) (fun s=>.b (longB s))
theorem ok_i_isLong:FOk Tryz.prog 213 (sp_i_isLong std):=by
 refine FOk.go (c:=cx std [(264,sp_i_IsWord std)] [] 0) (cx_ok (.cons ok_i_IsWord .nil) .nil) mixed Tryz.func213 rfl rfl rfl (by kernel_rfl) ?_
 rintro s hp
 refine⟨rfl,?_⟩
 unfold sp_i_IsWord
 generalize hP:std=p
 generalize hB0:longB=B0
 generalize hB1:isWordB=B1
 cbv
 repeat' first
  | (refine fun (_:Unit)=>?_;cbv)
  | (refine And.intro (fun h=>?_) (fun h=>?_)<;>cbv)
  | (refine And.intro ?_ ?_)
  | (refine Or.inl (fun (_:Unit)=>?_);cbv)
 all_goals subst hP hB0 hB1
 all_goals try exact fin
 all_goals (unfold longB;simp at *;try (intros;omega))
def sp_i_rising (p:Pr):FSpec:=fsp (a1 aS) (fun s=>p.ltM (p.lenS s)) (fun s=>.b (riseB s))
theorem ok_i_rising:FOk Tryz.prog 211 (sp_i_rising std):=by
 refine FOk.go (c:=cx std [(263,sp_i_onlySmall std)] [] 0) (cx_ok (.cons ok_i_onlySmall .nil) .nil) mixed Tryz.func211 rfl rfl rfl (by kernel_rfl) ?_
 rintro s hp
 refine⟨rfl,?_⟩
 unfold sp_i_onlySmall
 obtain⟨H,hH⟩ : ∃H:Hd (Int),H=⟨fun k=>1≤k∧riseB s=(adjB (fun a b=>decide (a.toNat<b.toNat)) (s.drop (k-1).toNat)&&smS s),fun k=>(s.length-k).toNat,(· < ·)⟩:=⟨_,rfl⟩
 have hl : ∀m n,H.lt m n→m<n:=by subst hH;exact fun _ _ h=>h
 generalize hP:std=p
 generalize hB0:riseB=B0
 generalize hB1:smS=B1
 cbv
 repeat' first
  | (refine fun (_:Unit)=>?_;cbv)
  | (refine Or.inr ⟨4,[],[.s 3 (.i .i64)],[],[],H,rfl,hl,?_,fun (k:Int) hk=>?_⟩<;>cbv)
  | (refine And.intro (fun h=>?_) (fun h=>?_)<;>cbv)
  | (refine And.intro ?_ ?_)
 all_goals subst hP hB0 hB1 hH
 all_goals clear hl
 all_goals try dsimp only at hk
 all_goals try dsimp only
 all_goals try exact fin
 ·exact⟨Int.le_refl 1,rfl⟩
 ·obtain⟨q0,e⟩:=hk
  rw [e,adj_step q0 (lt_of (by assumption)) 0]
  have h3:decide ((s.getD (k-1).toNat 0).toNat < (s.getD k.toNat 0).toNat)=false:=by simp [std] at h ⊢;omega
  rw [h3];rfl
 ·obtain⟨q0,e⟩:=hk
  refine⟨by show 1≤k+1;omega,?_⟩
  rw [e,adj_step q0 (lt_of (by assumption)) 0]
  have h3:decide ((s.getD (k-1).toNat 0).toNat < (s.getD k.toNat 0).toNat)=true:=by simp [std] at h ⊢;omega
  rw [h3];rfl
 ·obtain⟨q0,e⟩:=hk
  rw [e,adj_end (ge_of h)];rfl
def sp_i_place (p:Pr):FSpec:=fsp (a1 aC) (fun c=>p.inK .u8 c) (fun c=>.i .i64 (plcI c))
theorem ok_i_place:FOk Tryz.prog 217 (sp_i_place std):=by
 refine FOk.go (c:=cx std [(215,sp_i_small std)] [] 0) (cx_ok (.cons ok_i_small .nil) .nil) mixed Tryz.func217 rfl rfl rfl (by kernel_rfl) ?_
 rintro c hp
 refine⟨rfl,?_⟩
 unfold sp_i_small
 generalize hP:std=p
 generalize hB0:plcI=B0
 generalize hB1:inR=B1
 cbv
 repeat' first
  | (refine fun (_:Unit)=>?_;cbv)
  | (refine And.intro (fun h=>?_) (fun h=>?_)<;>cbv)
  | (refine And.intro ?_ ?_)
  | (refine Or.inl (fun (_:Unit)=>?_);cbv)
 all_goals subst hP hB0 hB1
 all_goals try exact fin
 ·have : c=63:=by simpa using h
  rw [this];rfl
 ·unfold inR at h
  simp at h hp
  exact⟨by show 0≤c-97;omega,by show c-97≤255;omega⟩
 ·have h2 : ¬c=63:=by simpa using ‹std.eqI c 63=false›
  unfold plcI
  rw [if_neg h2,if_pos h];show c-97+1=c-96;omega
 ·have h2 : ¬c=63:=by simpa using ‹std.eqI c 63=false›
  unfold plcI
  rw [if_neg h2,h];rfl
def sp_i_onlyTiles (p:Pr):FSpec:=fsp (a1 aS) (fun s=>p.ltM (p.lenS s)) (fun s=>.b (tiS s))
theorem ok_i_onlyTiles:FOk Tryz.prog 174 (sp_i_onlyTiles std):=by
 refine FOk.go (c:=cx std [(217,sp_i_place std)] [] 0) (cx_ok (.cons ok_i_place .nil) .nil) mixed Tryz.func174 rfl rfl rfl (by kernel_rfl) ?_
 rintro s hp
 refine⟨rfl,?_⟩
 unfold sp_i_place
 obtain⟨H,hH⟩ : ∃H:Hd (Int),H=⟨fun k=>0≤k∧k≤s.length∧tiS s=tiS (s.drop k.toNat),fun k=>(s.length-k).toNat,(· < ·)⟩:=⟨_,rfl⟩
 have hl : ∀m n,H.lt m n→m<n:=by subst hH;exact fun _ _ h=>h
 generalize hP:std=p
 generalize hB0:tiS=B0
 generalize hB1:plcI=B1
 cbv
 repeat' first
  | (refine fun (_:Unit)=>?_;cbv)
  | (refine Or.inr ⟨4,[],[.s 3 (.i .i64)],[],[],H,rfl,hl,?_,fun (k:Int) hk=>?_⟩<;>cbv)
  | (refine And.intro (fun h=>?_) (fun h=>?_)<;>cbv)
  | (refine And.intro ?_ ?_)
 all_goals subst hP hB0 hB1 hH
 all_goals clear hl
 all_goals try dsimp only at hk
 all_goals try dsimp only
 all_goals try exact fin
 all_goals obtain⟨q0,q1,e⟩:=hk
 ·rw [e,dc q0 (lt_of (by assumption)) 0,tiS,List.all_cons,plc_no h];rfl
 ·have h2:k<(s.length:Int):=lt_of (by assumption)
  refine⟨by show 0≤k+1;omega,by show k+1≤(s.length:Int);omega,?_⟩
  rw [e,dc q0 h2 0,tiS,List.all_cons,plc_yes h];rfl
 ·rw [e,dn (ge_of (by assumption))];rfl
end Ax
end Go.Proofs.YtpmakcfjdkaegaaGreatDoor
