/-
  Plain laws: small letters of strings, letters on a board, words of a lexicon, first places of bytes; The library's functions as the plain walker sees them; Piles, lexicons, boards, placed words, tile sets of the impl package: whether they are valid; Counts of tiles, piles, values of letters of the impl package; Words that a play forms, wrong words, whether it touches the board, its code, of the impl package; Wrong words, letters on the board, whether a play touches, its code, of the impl package; Tiles of a game, whether one waits, whether the last play and the last turn fit, of the impl package; Codes of actions, draws, ends, copies, of the impl package; The draws' source of choices; How a game ends, of the impl package; Facts of a turn with a play; Draws with rows that are handed to them; setups drawn: walked; What the laws of turns are asked: walked; A turn with a play, of the impl package.
  Conditions: none; the library's own variables are as the program lays them.
-/
import Derived.Test.YtjjonmhpgkahoaaGreatDoorS15
import Derived.Test.YtjjonmhpgkahoaaGreatDoorS10
import Derived.Shelf.Strings.CaseAny
import Derived.Lib.Builder
import Derived.Shelf.Spec.SearchS
import Derived.Lib.Replace
import Derived.Lib.SplitLaws
import Derived.Test.YtjjonmhpgkahoaaGreatDoorS14
import Derived.Test.YtjjonmhpgkahoaaGreatDoorU01
import Derived.Test.YtjjonmhpgkahoaaGreatDoorU02
import Derived.Test.YtjjonmhpgkahoaaGreatDoorS16
import Derived.Test.YtjjonmhpgkahoaaGreatDoorS18
import Derived.Test.YtjjonmhpgkahoaaGreatDoorS17
import Derived.Test.YtjjonmhpgkahoaaGreatDoorS19
import Derived.Test.YtjjonmhpgkahoaaGreatDoorS20
import Derived.Test.YtjjonmhpgkahoaaGreatDoorS13
import Derived.Test.YtjjonmhpgkahoaaGreatDoorS11
import Derived.Test.YtjjonmhpgkahoaaGreatDoorS29
import Derived.Test.YtjjonmhpgkahoaaGreatDoorS21
import Derived.Test.YtjjonmhpgkahoaaGreatDoorS30
import Derived.Test.YtjjonmhpgkahoaaGreatDoorS35
import Derived.Test.YtjjonmhpgkahoaaGreatDoorS34
import Derived.Test.YtjjonmhpgkahoaaGreatDoorS37
set_option linter.unusedSimpArgs false
set_option linter.unusedVariables false
namespace Go.Proofs.YtjjonmhpgkahoaaGreatDoor
open Go.RowKit
set_option maxRecDepth 100000
theorem bytesLess_iff : ∀(x y:List UInt8),Op.bytesLess x y=decide (x<y)
 | [],[]=>by simp [Op.bytesLess]
 | _::_,[]=>by simp [Op.bytesLess]
 | [],_::_=>by simp [Op.bytesLess]
 | a::x,b::y=>by
   rw [Op.bytesLess,bytesLess_iff x y]
   simp only [List.cons_lt_cons_iff]
   by_cases h1:a<b<;>by_cases h2:a=b<;>by_cases h3:x<y<;>simp [h1,h2,h3]
theorem sLt_iff (a b:Str):sLt a b=true↔a<b:=by rw [sLt,bytesLess_iff];exact decide_eq_true_iff
theorem sLt_no (a b:Str):sLt a b=false↔b≤a:=by rw [sLt,bytesLess_iff,decide_eq_false_iff_not,List.not_lt]
theorem firstK_le : ∀(ws:List Str) (s:Str),firstK ws s≤ws.length
 | [],_=>Nat.le_refl _
 | x::r,s=>by
   rw [firstK]
   have:=firstK_le r s
   split<;>simp<;>omega
theorem incB_pw : ∀ws:List Str,incB ws=true→ws.Pairwise (fun a b=>a<b)
 | [],_=>.nil
 | [_],_=>by simp
 | a::b::r,h=>by
   rw [incB,Bool.and_eq_true] at h
   have ih:=incB_pw (b::r) h.2
   have hab:=(sLt_iff a b).1 h.1
   refine .cons (fun x hx=>?_) ih
   rcases List.mem_cons.1 hx with rfl | hx
   ·exact hab
   ·exact List.lt_trans hab ((List.pairwise_cons.1 ih).1 x hx)
theorem firstK_lt : ∀(ws:List Str) (s:Str) (t:Nat),t<firstK ws s→sLt (ws.getD t []) s=true
 | [],_,t,h=>absurd h (Nat.not_lt_zero t)
 | x::r,s,t,h=>by
   rw [firstK] at h
   cases hx:sLt x s<;>rw [hx] at h
   ·simp at h
   ·cases t with
    | zero=>simpa using hx
    | succ t=>simpa using firstK_lt r s t (by simp at h;omega)
theorem firstK_ge : ∀(ws:List Str) (s:Str),ws.Pairwise (fun a b=>a<b)→∀t,firstK ws s≤t→t<ws.length→sLt (ws.getD t []) s=false
 | [],_,_,t,_,h=>absurd h (Nat.not_lt_zero t)
 | x::r,s,hp,t,h,hl=>by
   rw [firstK] at h
   cases hx:sLt x s<;>rw [hx] at h
   ·cases t with
    | zero=>simpa using hx
    | succ t=>
      have hm:r.getD t []∈r:=by
       have h2:t<r.length:=by simpa using hl
       rw [List.getD_eq_getElem?_getD,List.getElem?_eq_getElem h2];exact List.getElem_mem h2
      have:=(List.pairwise_cons.1 hp).1 _ hm
      simp only [List.getD_cons_succ]
      rw [sLt_no] at hx ⊢
      exact List.le_of_lt (List.lt_of_le_of_lt hx this)
   ·cases t with
    | zero=>simp at h
    | succ t=>simpa using firstK_ge r s (List.pairwise_cons.1 hp).2 t (by simp at h;omega) (by simpa using hl)
theorem bs_hasB (ws:List Str) (s:Str) (hi:incB ws=true) :
 Lib.bsGo (fun t=>sLt (ws.getD t []) s) ws.length 0 ws.length=firstK ws s:=by
 have hg : ∀f lo hi,hi≤ws.length→Lib.bsGo (fun t=>sLt (ws.getD t []) s) f lo hi=Lib.bsGo (fun t=>decide (t<firstK ws s)) f lo hi:=by
  intro f
  induction f with
  | zero=>intros;rfl
  | succ f ih=>
    intro lo hi hle
    unfold Lib.bsGo
    by_cases h:lo<hi
    ·rw [if_pos h,if_pos h]
     have he:sLt (ws.getD ((lo+hi)/2) []) s=decide ((lo+hi)/2<firstK ws s):=by
      by_cases hk:(lo+hi)/2<firstK ws s
      ·rw [firstK_lt _ _ _ hk,decide_eq_true hk]
      ·rw [firstK_ge _ _ (incB_pw ws ‹_›) _ (by omega) (by omega),decide_eq_false hk]
     simp only [he]
     rw [ih _ _ hle,ih _ _ (by omega)]
    ·rw [if_neg h,if_neg h]
 rw [hg _ _ _ (Nat.le_refl _)]
 exact Lib.bsGo_spec _ (firstK ws s) (fun t h=>by simpa using h) (fun t h=>by simpa using h) _ _ _ (by omega) (by omega) (firstK_le ws s)
end Go.Proofs.YtjjonmhpgkahoaaGreatDoor
namespace Go.Proofs.YtjjonmhpgkahoaaGreatDoor
namespace Ax
open Go.RowKit
set_option maxRecDepth 100000
section
variable {P:Program} {f:FuncId} {fn:Func} {α:Type}
end
def fstI (ws:List (List UInt8)) (s:List UInt8):Int:=firstK ws s
def sp_search (p:Pr):FSpec:=fsp (ac aW (a1 aS)) (fun (ws,_)=>incB ws=true∧p.leP (p.len ws) 1073741824) (fun (ws,s)=>.tup [.i .i64 (fstI ws s),.b (hasB ws s)])
theorem ok_search:FOk Tryz.prog 228 (sp_search std):=by
 refine FOk.of_calls Tryz.func228 rfl rfl fun ⟨ws,s⟩ hp w e vals hz hl=>?_
 obtain⟨u,v,hv,h1,h2⟩:=Rs2 hl
 rw [arr_of hv]
 have h2:v=.string ⟨s.toArray⟩:=by unfold R at h2;exact h2
 obtain⟨X,C,hu,hC,hX⟩ : ∃X C,u=.slice X ws.length C∧ws.length≤C∧∀i x,ws[i]? =some x→∃b o,X=some ⟨b,o,none⟩∧e.fz b∧RE w e.fz [.s] b (o+i*1) x:=by unfold R at h1;exact h1
 subst hu h2
 obtain⟨hi,hn⟩:incB ws=true∧(ws.length:Int)≤1073741824:=hp
 have hbs:=bs_hasB ws s hi
 have hdef:hasB ws s=(ws[firstK ws s]? ==some s):=rfl
 have hR : ∀w e,R w e (.tup [.i .i64 (fstI ws s),.b (hasB ws s)]) (.tuple #[.int .i64 (firstK ws s:Int),.bool (hasB ws s)]):=fun w e=>by
  simp [R,Rs,fstI]
 rcases Nat.eq_zero_or_pos ws.length with h0 | h0
 ·have h:=Any2.slices_BinarySearch_string_empty Tryz.searchS X C ⟨s.toArray⟩ w
  rw [h0]
  refine Calls.mono h ?_
  rintro en w' ⟨rfl,rfl⟩
  have : ws=[]:=List.eq_nil_of_length_eq_zero h0
  subst this
  exact⟨_,rfl,hR,Below.refl _ _⟩
 ·obtain⟨b,o,hX0,hfb, -⟩:=hX 0 _ (List.getElem?_eq_getElem h0)
  subst hX0
  have h:=Any2.slices_BinarySearch_string Tryz.searchS b o ws.length C (fun t=>⟨(ws.getD t []).toArray⟩) ⟨s.toArray⟩ w (by omega) (fun j hj=>by
   obtain⟨b',o',h3, -,h4⟩:=hX j _ (List.getElem?_eq_getElem hj)
   cases h3
   unfold RE REs RE2 at h4
   obtain⟨x,h5,h6⟩:=h4
   unfold RA at h6
   rw [h6,Nat.mul_one] at h5
   rw [h5]
   simp [List.getD_eq_getElem?_getD,List.getElem?_eq_getElem hj])
  have hlt : ∀x:List UInt8,(ByteArray.mk x.toArray).toList =x:=fun x=>by rw [Lib.toList_data]
  simp only [hlt] at h
  have hbs':Lib.bsGo (fun t=>Op.bytesLess (ws.getD t []) s) ws.length 0 ws.length=firstK ws s:=hbs
  rw [hbs'] at h
  refine Calls.mono h ?_
  rintro en w' ⟨rfl,q,rfl⟩
  refine⟨_,rfl,?_,⟨rfl,rfl,rfl,Nat.le_refl _,fun _ _=>rfl⟩⟩
  have hd:decide (firstK ws s<ws.length∧ByteArray.mk (ws.getD (firstK ws s) []).toArray =ByteArray.mk s.toArray)=hasB ws s:=by
   rw [hdef,Bool.eq_iff_iff]
   simp only [decide_eq_true_eq,beq_iff_eq,List.getD_eq_getElem?_getD]
   constructor
   ·rintro ⟨h1,h2⟩
    have h3:=congrArg (fun x:ByteArray=>x.data.toList) h2
    simp only [List.getElem?_eq_getElem h1,Option.getD_some] at h3
    rw [List.getElem?_eq_getElem h1,h3]
   ·intro h1
    obtain⟨h2,h3⟩:=List.getElem?_eq_some_iff.1 h1
    exact⟨h2,by rw [h1];rfl⟩
  rw [hd]
  exact hR
end Ax
namespace Ax
set_option maxRecDepth 100000
set_option maxHeartbeats 2000000
def sp_i_lower (p:Pr):FSpec:=fsp (a1 aS) (fun s=>p.leP (p.lenS s) 1073741824) (fun s=>.s (lowU s))
theorem ok_i_lower:FOk Tryz.prog 260 (sp_i_lower std):=by
 refine FOk.go (c:=cx std [(303,sp_toLower std)] [] 0) (cx_ok (.cons ok_toLower .nil) .nil) mixed Tryz.func260 rfl rfl rfl (by kernel_rfl) ?_
 rintro s hp
 refine⟨rfl,?_⟩
 unfold sp_toLower
 generalize hP:std=p,hB0:lowU=B0
 cbv
 repeat' first
  | (refine fun (_:Unit)=>?_;cbv)
  | (refine aI2 (fun h=>?_) (fun h=>?_)<;>cbv)
  | (refine aI2 ?_ ?_)
  | (refine Or.inl (fun (_:Unit)=>?_);cbv)
 all_goals subst hP hB0
 all_goals try exact fin
def sp_i_Lexicon_has (p:Pr):FSpec:=fsp (ac (aA aLex) (a1 aS)) (fun (ws,s)=>incB ws=true∧p.leP (p.len ws) 1073741824) (fun (ws,s)=>.b (hasB ws s))
theorem ok_i_Lexicon_has:FOk Tryz.prog 152 (sp_i_Lexicon_has std):=by
 refine FOk.go (c:=cx std [(228,sp_search std)] [] 0) (cx_ok (.cons ok_search .nil) .nil) mixed Tryz.func152 rfl rfl rfl (by kernel_rfl) ?_
 rintro ⟨ws,s⟩ hp
 dsimp only at hp
 refine⟨rfl,?_⟩
 unfold sp_search
 generalize hP:std=p,hB0:hasB=B0,hB1:incB=B1,hB2:fstI=B2
 cbv
 repeat' first
  | (refine fun (_:Unit)=>?_;cbv)
  | (refine aI2 (fun h=>?_) (fun h=>?_)<;>cbv)
  | (refine aI2 ?_ ?_)
  | (refine Or.inl (fun (_:Unit)=>?_);cbv)
 all_goals subst hP hB0 hB1 hB2
 all_goals try exact fin
end Ax
namespace Ax
open Go.RowKit
set_option maxRecDepth 100000
set_option maxHeartbeats 2000000
section
variable {c d:List Int}
end
section
variable {b:Bd} {q:Pl} {k:Int}
theorem np_len:(npI b q).length =(newL b q).length :=by simp [npI]
theorem np_at (h0:0≤k) (h:k<(npI b q).length) : ∃n:Nat,n<q.word.length∧(npI b q).getD k.toNat 0=(n:Int)∧(placedI b q).take (k+1).toNat =(placedI b q).take k.toNat++[q.word.getD n 0]:=by
 rw [np_len] at h
 have hk:k.toNat<(newL b q).length :=by omega
 have hm:(newL b q)[k.toNat]∈newL b q:=List.getElem_mem hk
 refine⟨(newL b q)[k.toNat],?_,?_,?_⟩
 ·unfold newL newTo at hm
  exact List.mem_range.1 (List.mem_filter.1 hm).1
 ·unfold npI
  rw [List.getD_eq_getElem?_getD,List.getElem?_map,List.getElem?_eq_getElem hk];rfl
 ·rw [tk h0 (by rw [placedI,List.length_map];omega) 0]
  congr 2
  unfold placedI
  rw [List.getD_eq_getElem?_getD,List.getElem?_map,List.getElem?_eq_getElem hk];rfl
end
theorem toB_snoc1 (l:List UInt8) (c:UInt8):toBl l++[(c.toNat:Int)]=toBl (l++[c]):=by simp [toBl]
def sp_i_placedTiles (p:Pr):FSpec:=fsp (ac (aA aBd) (a1 (aA aPl))) (fun (b,q)=>VP b q) (fun (b,q)=>.s (tilesP (placedI b q)))
theorem ok_i_placedTiles:FOk Tryz.prog 117 (sp_i_placedTiles std):=by
 refine FOk.go (c:=cx std [(203,sp_i_newSquares std),(91,sp_i_tilesOf std)] [] 0) (cx_ok (.cons ok_i_newSquares (.cons ok_i_tilesOf .nil)) .nil) mixed Tryz.func117 rfl rfl rfl (by kernel_rfl) ?_
 rintro ⟨b,q⟩ hp
 dsimp only at hp
 refine⟨rfl,?_⟩
 unfold sp_i_newSquares sp_i_tilesOf
 obtain⟨H,hH⟩ : ∃H:Hd (Int×List Int),H=⟨fun (k,L)=>0≤k∧k≤(npI b q).length ∧L=toBl ((placedI b q).take k.toNat),fun (k,L)=>((npI b q).length - k).toNat,(· < ·)⟩:=⟨_,rfl⟩
 have hl : ∀m n,H.lt m n→m<n:=by subst hH;exact fun _ _ h=>h
 generalize hP:std=p,hB0:tilesP=B0,hB1:placedI=B1,hB2:nsI=B2,hB3:npI=B3
 cbv
 repeat' first
  | (refine fun (_:Unit)=>?_;cbv)
  | (refine Or.inr ⟨20,[],[.s 19 (.i .i64),.o 2 [.i .u8]],[.s 7],[],H,rfl,hl,?_,fun ((k,L):Int×List Int) hk=>?_⟩<;>cbv)
  | (refine aI2 (fun h=>?_) (fun h=>?_)<;>cbv)
  | (refine aI2 ?_ ?_)
 all_goals subst hP hB0 hB1 hB2 hB3 hH
 all_goals clear hl
 all_goals try dsimp only at hk
 all_goals try dsimp only
 all_goals try exact fin
 ·exact⟨Int.le_refl 0,Int.natCast_nonneg _,rfl⟩
 all_goals obtain⟨q0,q1,rfl⟩:=hk
 all_goals have q1:k≤((npI b q).length : Int):=q1
 all_goals have hn:=newTo_length b q q.word.length
 all_goals have hn2:(npI b q).length ≤q.word.length:=by rw [np_len];exact hn
 all_goals have hw:=hp.hi
 all_goals have hll:((placedI b q).take k.toNat).length ≤12:=by rw [List.length_take];unfold placedI newL;rw [List.length_map];omega
 all_goals try (have hlt:k<((npI b q).length : Int):=lt_of ‹_›;obtain⟨n,n1,n2,n3⟩:=np_at q0 hlt)
 ·show 0≤(npI b q).getD k.toNat 0∧(npI b q).getD k.toNat 0<(q.word.length:Int)
  rw [n2];omega
 ·show ((toBl ((placedI b q).take k.toNat)).length : Int)+1≤_
  rw [toB_len];omega
 ·exact in64 (by show _≤k+1∧k+1≤_;omega)
 ·refine⟨by show 0≤k+1;omega,by show k+1≤((npI b q).length : Int);omega,?_⟩
  show toBl ((placedI b q).take k.toNat)++[((q.word.getD ((npI b q).getD k.toNat 0).toNat 0).toNat : Int)]=_
  rw [n2,Int.toNat_natCast,toB_snoc1]
  show _=toBl ((placedI b q).take (k+1).toNat)
  rw [n3]
 all_goals have hge:((npI b q).length : Int)≤k:=ge_of ‹_›
 all_goals have e:(placedI b q).take k.toNat=placedI b q:=List.take_of_length_le (by unfold placedI;rw [List.length_map];rw [np_len] at hge;omega)
 ·refine⟨?_,?_⟩
  ·show lettB (toSl (toBl ((placedI b q).take k.toNat)))=true
   rw [toS_toB,e];exact placedI_lett hp.lett
  ·show (toSl (toBl ((placedI b q).take k.toNat))).length ≤1000000
   rw [toS_toB];omega
 ·show tilesP (toSl (toBl ((placedI b q).take k.toNat)))=_
  rw [toS_toB,e]
def sp_i_lettersValue (p:Pr):FSpec:=fsp (ac (aA aTs) (a1 aS)) (fun (t,s)=>TsOk t∧p.ltM (p.lenS s)) (fun (t,s)=>.i .i64 (sumT t s))
theorem ok_i_lettersValue:FOk Tryz.prog 190 (sp_i_lettersValue std):=by
 refine FOk.go (c:=cx std [(252,sp_i_valueOf std)] [] 0) (cx_ok (.cons ok_i_valueOf .nil) .nil) mixed Tryz.func190 rfl rfl rfl (by kernel_rfl) ?_
 rintro ⟨t,s⟩ hp
 dsimp only at hp
 refine⟨rfl,?_⟩
 unfold sp_i_valueOf
 obtain⟨H,hH⟩ : ∃H:Hd (Int×Int),H=⟨fun (m,k)=>0≤k∧k≤s.length∧sumT t s=m+sumT t (s.drop k.toNat)∧0≤m∧m≤20*k,fun (m,k)=>(s.length-k).toNat,(· < ·)⟩:=⟨_,rfl⟩
 have hl : ∀m n,H.lt m n→m<n:=by subst hH;exact fun _ _ h=>h
 generalize hP:std=p,hB0:valT=B0,hB1:sumT=B1,hB2:u8=B2
 cbv
 repeat' first
  | (refine fun (_:Unit)=>?_;cbv)
  | (refine Or.inr ⟨7,[],[.s 5 (.i .i64),.s 6 (.i .i64)],[],[],H,rfl,hl,?_,fun ((m,k):Int×Int) hk=>?_⟩<;>cbv)
  | (refine aI2 (fun h=>?_) (fun h=>?_)<;>cbv)
  | (refine aI2 ?_ ?_)
 all_goals subst hP hB0 hB1 hB2 hH
 all_goals clear hl
 all_goals try dsimp only at hk
 all_goals try dsimp only
 all_goals try exact fin
 all_goals try simp only [eta_ts] at *
 ·obtain⟨q0,q1,e,q2,q3⟩:=hk
  have h1:=lt_of h
  have h2:=hp.1.lo (u8 (std.byte s k))
  have h3:=hp.1.hi (u8 (std.byte s k))
  have h4:(s.length:Int)≤274877906944:=hp.2
  have h5:k<(s.length:Int):=h1
  exact in64 (by show _≤m+valT t (u8 (std.byte s k))∧m+valT t (u8 (std.byte s k))≤_;omega)
 ·obtain⟨q0,q1,e,q2,q3⟩:=hk
  have h1:k<(s.length:Int):=lt_of h
  have h2:=hp.1.lo (u8 (std.byte s k))
  have h3:=hp.1.hi (u8 (std.byte s k))
  refine⟨by show 0≤k+1;omega,by show k+1≤(s.length:Int);omega,?_,by show 0≤m+valT t (u8 (std.byte s k));omega,by show m+valT t (u8 (std.byte s k))≤20*(k+1);omega⟩
  rw [e,dc q0 h1 0,u8_byte]
  simp [sumT,Int.add_assoc]
 ·obtain⟨q0,q1,e,q2,q3⟩:=hk
  rw [e,dn (ge_of h)]
  simp [sumT]
end Ax
namespace Ax
set_option maxRecDepth 100000
set_option maxHeartbeats 2000000
section
variable {b:Bd} {q:Pl} {k j:Int}
theorem asciiB_getD {s:Str} (h:asciiB s=true) (k:Nat):(s.getD k 0).toNat < 128:=by
 rw [List.getD_eq_getElem?_getD]
 rcases Nat.lt_or_ge k s.length with hk | hk
 ·rw [List.getElem?_eq_getElem hk]
  have:=List.all_eq_true.1 h _ (List.getElem_mem hk)
  simpa using this
 ·rw [List.getElem?_eq_none hk];decide
theorem madeTo_ascii (hb:asciiB b.cells=true) (hq:asciiB q.word=true) : ∀k,asciiB (madeTo b q k)=true
 | 0=>hb
 | k+1=>by
   rw [made_suc]
   refine List.all_eq_true.2 fun c hc=>?_
   rcases List.mem_or_eq_of_mem_set hc with h | h
   ·exact List.all_eq_true.1 (madeTo_ascii hb hq k) c h
   ·subst h;simpa using asciiB_getD hq k
theorem sqW_ascii {M:Bd} (hM:asciiB M.cells=true) (l:List (Int×Int)):asciiB (sqW M l)=true:=by
 refine List.all_eq_true.2 fun c hc=>?_
 obtain⟨s,_,rfl⟩:=List.mem_map.1 hc
 unfold Bd.cell
 split
 ·simpa [Bd.at_] using asciiB_getD hM _
 ·decide
theorem cellB_ascii {c:UInt8} (h:cellB c=true):c.toNat<128:=by
 unfold cellB smallB capB at h
 simp only [Bool.or_eq_true,Bool.and_eq_true,decide_eq_true_eq,beq_iff_eq] at h
 rcases h with (rfl | h) | h
 ·decide
 ·omega
 ·omega
theorem bd_ascii (h:bdB b=true):asciiB b.cells=true:=by
 have hf:=bdB.fit h
 unfold bdB at h
 rw [okFrom_eq _ _ (by have:=hf.prem;have:=hf.cells;omega)] at h
 simp only [Bool.and_eq_true] at h
 refine List.all_eq_true.2 fun c hc=>?_
 have:=cellB_ascii (List.all_eq_true.1 h.2.2.2.2 c hc)
 simpa using this
theorem lowU_asc {s:Str} (h:asciiB s=true):lowU s=lowS s:=by
 unfold lowU
 rw [Lib.toLowerD_ascii _ (fun b hb=>by simpa using List.all_eq_true.1 h b hb)]
 exact toLowerA_low s
def crW (b:Bd) (q:Pl) (k:Int):List Str:=lowU q.word::((crS2 b q).take k.toNat).map fun l=>lowU (sqW (madeB b q) l)
theorem crW_all (hp:VP b q) (hge:((crS2 b q).length : Int)≤k):crW b q k=wordsI b q:=by
 have hM:asciiB (madeB b q).cells =true:=madeTo_ascii (bd_ascii hp.bd) (lettB_ascii hp.lett) _
 unfold crW wordsI crossW
 rw [List.take_of_length_le (by omega),lowU_asc (lettB_ascii hp.lett)]
 unfold crS2
 rw [List.map_map]
 congr 1
 exact List.map_congr_left fun x _=>lowU_asc (sqW_ascii hM _)
theorem crW_suc (h0:0≤k) (h:k<(crS2 b q).length):crW b q (k+1)=crW b q k++[lowU (sqW (madeB b q) (crSq b q k))]:=by
 unfold crW crSq
 rw [tk h0 h [],List.map_append];rfl
theorem crW_len (h:VP b q):(crW b q k).length ≤13:=by
 have:=cr2_len h
 unfold crW
 rw [List.length_cons,List.length_map,List.length_take];omega
theorem words_len (h:VP b q):(wordsI b q).length ≤13:=by
 rw [←crW_all h (Int.le_refl _)];exact crW_len h
theorem sqW_suc {M:Bd} {l:List (Int×Int)} (h0:0≤k) (h:k<l.length):toBl (sqW M (l.take k.toNat))++[celV M (l.getD k.toNat (0,0)).1 (l.getD k.toNat (0,0)).2]=toBl (sqW M (l.take (k+1).toNat)):=by
 rw [tk h0 h (0,0)]
 unfold sqW celV toBl
 rw [List.map_append,List.map_append];rfl
end
def sp_i_wordsFormed (p:Pr):FSpec:=fsp (ac (aA aBd) (a1 (aA aPl))) (fun (b,q)=>VP b q) (fun (b,q)=>.rsl [.s] (wordsI b q))
def sp_i_wordsFormed_o (p:Pr):FSpec:=fsp (ac (aA aBd) (a1 (aA aPl))) (fun (b,q)=>VP b q) (fun (b,q)=>.osl 0) (fun (b,q)=>[(0,.own [.s] (wordsI b q) 9)])
theorem ok_i_wordsFormed_o:FOk Tryz.prog 205 (sp_i_wordsFormed_o std):=by
 refine FOk.go (c:=cx std [(119,sp_i_made std),(261,sp_i_crossings std),(260,sp_i_lower std),(259,sp_i_Board_cell std)] [] 0) (cx_ok (.cons ok_i_made (.cons ok_i_crossings (.cons ok_i_lower (.cons ok_i_Board_cell .nil)))) .nil) mixed Tryz.func205 rfl rfl rfl (by kernel_rfl) ?_
 rintro ⟨b,q⟩ hp
 dsimp only at hp
 refine⟨rfl,?_⟩
 unfold sp_i_made sp_i_crossings sp_i_lower sp_i_Board_cell
 obtain⟨H,hH⟩ : ∃H:Hd (Int×List (List UInt8)),H=⟨fun (k,W)=>0≤k∧k≤(crS2 b q).length ∧W=crW b q k,fun (k,W)=>((crS2 b q).length - k).toNat,(· < ·)⟩:=⟨_,rfl⟩
 have hl : ∀m n,H.lt m n→m<n:=by subst hH;exact fun _ _ h=>h
 obtain⟨H2,hH2⟩ : ∃H:(Int×List (List UInt8))→Hd (Int×List Int),H=fun (k,W)=>⟨fun (j,L)=>0≤j∧j≤(crSq b q k).length ∧L=toBl (sqW (madeB b q) ((crSq b q k).take j.toNat)),fun (j,L)=>((crSq b q k).length - j).toNat,(· < ·)⟩:=⟨_,rfl⟩
 have hl2 : ∀x m n,(H2 x).lt m n→m<n:=by subst hH2;exact fun _ _ _ h=>h
 generalize hP:std=p,hB0:wordsI=B0,hB1:crS1=B1,hB2:crS2=B2,hB3:crSq=B3,hB4:madeB=B4,hB5:lowU=B5,hB6:celV=B6
 cbv
 repeat' first
  | (refine fun (_:Unit)=>?_;cbv)
  | (refine Or.inr ⟨30,[],[.s 29 (.i .i64),.o 3 [.s]],[.s 6],[],H,rfl,hl,?_,fun ((k,W):Int×List (List UInt8)) hk=>?_⟩<;>cbv)
  | (refine Or.inr ⟨37,[],[.s 36 (.i .i64),.o 4 [.i .u8]],[.s 11],[],H2 (k,W),rfl,hl2 _,?_,fun ((j,L):Int×List Int) hk2=>?_⟩<;>cbv)
  | (refine aI2 (fun h=>?_) (fun h=>?_)<;>cbv)
  | (refine aI2 ?_ ?_)
 all_goals subst hP hB0 hB1 hB2 hB3 hB4 hB5 hB6 hH hH2
 all_goals clear hl
 all_goals try dsimp only at hk
 all_goals clear hl2
 all_goals try dsimp only at hk2
 all_goals try dsimp only
 all_goals try exact fin
 all_goals (try simp only [eta_bd,eta_pl] at *)
 all_goals try (obtain⟨q0,q1,rfl⟩:=hk)
 all_goals try (have q1:k≤((crS2 b q).length : Int):=q1)
 all_goals try (obtain⟨r0,r1,rfl⟩:=hk2)
 all_goals try (have r1:j≤((crSq b q k).length : Int):=r1)
 all_goals have hcl:=cr2_len hp
 all_goals try (have hcw:=crW_len (k:=k) hp)
 all_goals try (have hsl:(crSq b q k).length ≤32:=cr2_at k.toNat)
 ·show (q.word.length:Int)≤1073741824
  have:=hp.hi;omega
 ·exact⟨Int.le_refl 0,Int.natCast_nonneg _,rfl⟩
 ·exact⟨Int.le_refl 0,Int.natCast_nonneg _,rfl⟩
 ·have h:j<((crSq b q k).length : Int):=lt_of ‹_›
  exact⟨r0,h⟩
 ·exact made_fit hp
 ·show ((toBl (sqW (madeB b q) ((crSq b q k).take j.toNat))).length : Int)+1≤_
  rw [toB_len];unfold sqW;rw [List.length_map,List.length_take];omega
 ·have h:j<((crSq b q k).length : Int):=lt_of ‹_›
  exact in64 (by show _≤j+1∧j+1≤_;omega)
 ·have h:j<((crSq b q k).length : Int):=lt_of ‹_›
  exact⟨by show 0≤j+1;omega,by show j+1≤((crSq b q k).length : Int);omega,sqW_suc r0 h⟩
 ·have h:j<((crSq b q k).length : Int):=lt_of ‹_›
  show (((crSq b q k).length : Int)-(j+1)).toNat < (((crSq b q k).length : Int)-j).toNat
  omega
 ·show ((toSl (toBl (sqW (madeB b q) ((crSq b q k).take j.toNat)))).length : Int)≤_
  rw [toS_toB];unfold sqW;rw [List.length_map,List.length_take];omega
 ·show ((crW b q k).length : Int)+1≤_
  omega
 ·have h:k<((crS2 b q).length : Int):=lt_of ‹_›
  exact in64 (by show _≤k+1∧k+1≤_;omega)
 ·have h:k<((crS2 b q).length : Int):=lt_of ‹_›
  have h2:((crSq b q k).length : Int)≤j:=ge_of ‹_›
  refine⟨by show 0≤k+1;omega,by show k+1≤((crS2 b q).length : Int);omega,?_⟩
  show crW b q k++[lowU (toSl (toBl (sqW (madeB b q) ((crSq b q k).take j.toNat))))]=crW b q (k+1)
  have h3:(crSq b q k).take j.toNat=crSq b q k:=List.take_of_length_le (by omega)
  rw [crW_suc q0 h,toS_toB,h3]
 ·rw [crW_all hp (ge_of ‹_›)]
theorem ok_i_wordsFormed:FOk Tryz.prog 205 (sp_i_wordsFormed std):=FOk.frz ok_i_wordsFormed_o fun ⟨b,q⟩=>⟨by simp [deep,deeps,AH.get],by simp [PV.idIn,idInL]⟩
end Ax
namespace Ax
set_option maxRecDepth 100000
set_option maxHeartbeats 2000000
def aCl:Arg (List (List UInt8)):=⟨fun | .fn g [.rptr [.rsl [.s] ws] 0]=>if Nat.beq g 262 then some ws else none | _=>none,fun ws=>.fn 262 [.rptr [.rsl [.s] ws] 0],fun x a h=>by
 split at h
 ·split at h
  ·rename_i g _ hg
   cases h
   rw [Nat.eq_of_beq_eq_true hg]
  ·cases h
 ·cases h⟩
structure LxP (ws:List Str):Prop where
 inc:incB ws=true
 len:(ws.length:Int)≤1073741824
def sp_i_wrongWords_1 (p:Pr):FSpec:=fsp (ac aS (a1 (aP aLex))) (fun (s,ws)=>LxP ws) (fun (s,ws)=>.b (!hasB ws s))
theorem ok_i_wrongWords_1:FOk Tryz.prog 262 (sp_i_wrongWords_1 std):=by
 refine FOk.go (c:=cx std [(152,sp_i_Lexicon_has std)] [] 0) (cx_ok (.cons ok_i_Lexicon_has .nil) .nil) mixed Tryz.func262 rfl rfl rfl (by kernel_rfl) ?_
 rintro ⟨s,ws⟩ hp
 dsimp only at hp
 refine⟨rfl,?_⟩
 unfold sp_i_Lexicon_has
 generalize hP:std=p,hB0:hasB=B0,hB1:incB=B1
 cbv
 repeat' first
  | (refine fun (_:Unit)=>?_;cbv)
  | (refine aI2 (fun h=>?_) (fun h=>?_)<;>cbv)
  | (refine aI2 ?_ ?_)
  | (refine Or.inl (fun (_:Unit)=>?_);cbv)
 all_goals subst hP hB0 hB1
 all_goals try exact fin
 ·exact hp.len
theorem wrong_le (ws xs:List (List UInt8)):(wrongS ws xs).length ≤xs.length:=List.length_filter_le _ _
def sp_i_selected_string__o (p:Pr):FSpec:=fsp (ac aW (a1 aCl)) (fun (xs,ws)=>LxP ws∧p.ltM (p.len xs)) (fun (xs,ws)=>.osl 0) (fun (xs,ws)=>[(0,.own [.s] (wrongS ws xs) 9)])
theorem ok_i_selected_string__o:FOk Tryz.prog 150 (sp_i_selected_string__o std):=by
 refine FOk.go (c:=cx std [(262,sp_i_wrongWords_1 std)] [] 0) (cx_ok (.cons ok_i_wrongWords_1 .nil) .nil) mixed Tryz.func150 rfl rfl rfl (by kernel_rfl) ?_
 rintro ⟨xs,ws⟩ hp
 dsimp only at hp
 refine⟨rfl,?_⟩
 unfold sp_i_wrongWords_1
 obtain⟨H,hH⟩ : ∃H:Hd (Int×List (List UInt8)),H=⟨fun (k,L)=>0≤k∧k≤xs.length∧L=wrongS ws (xs.take k.toNat),fun (k,L)=>(xs.length-k).toNat,(· < ·)⟩:=⟨_,rfl⟩
 have hl : ∀m n,H.lt m n→m<n:=by subst hH;exact fun _ _ h=>h
 generalize hP:std=p,hB0:wrongS=B0,hB1:hasB=B1
 cbv
 repeat' first
  | (refine fun (_:Unit)=>?_;cbv)
  | (refine Or.inr ⟨12,[],[.s 11 (.i .i64),.o 0 [.s]],[.s 5],[],H,rfl,hl,?_,fun ((k,L):Int×List (List UInt8)) hk=>?_⟩<;>cbv)
  | (refine aI2 (fun h=>?_) (fun h=>?_)<;>cbv)
  | (refine aI2 ?_ ?_)
 all_goals subst hP hB0 hB1 hH
 all_goals clear hl
 all_goals try dsimp only at hk
 all_goals try dsimp only
 all_goals try exact fin
 ·exact⟨Int.le_refl 0,Int.natCast_nonneg _,rfl⟩
 all_goals obtain⟨q0,q1,rfl⟩:=hk
 all_goals have h2:=wrong_le ws (xs.take k.toNat)
 all_goals rw [List.length_take] at h2
 all_goals have hl:=hp.2
 all_goals try (have h1:k<xs.length:=lt_of ‹_›)
 ·show ((wrongS ws (xs.take k.toNat)).length : Int)+1≤274877906944
  have : (xs.length:Int)≤274877906944:=hl
  omega
 ·refine⟨by show 0≤k+1;omega,by show k+1≤(xs.length:Int);omega,?_⟩
  have h6:(!hasB ws (xs.getD k.toNat []))=true:=by assumption
  show wrongS ws (xs.take k.toNat)++[xs.getD k.toNat []]=wrongS ws (xs.take (k+1).toNat)
  unfold wrongS
  rw [filt_step q0 h1,if_pos h6]
 ·refine⟨by show 0≤k+1;omega,by show k+1≤(xs.length:Int);omega,?_⟩
  have h6:(!hasB ws (xs.getD k.toNat []))=false:=by assumption
  show wrongS ws (xs.take k.toNat)=wrongS ws (xs.take (k+1).toNat)
  unfold wrongS
  rw [filt_step q0 h1,h6];simp
 ·rw [tk_all (ge_of ‹_›)]
def sp_i_wrongWords (p:Pr):FSpec:=fsp (ac (aA aBd) (ac (aA aLex) (a1 (aA aPl)))) (fun (b,ws,q)=>VP b q∧LxP ws) (fun (b,ws,q)=>.rsl [.s] (wrongS ws (wordsI b q)))
def sp_i_wrongWords_o (p:Pr):FSpec:=fsp (ac (aA aBd) (ac (aA aLex) (a1 (aA aPl)))) (fun (b,ws,q)=>VP b q∧LxP ws) (fun (b,ws,q)=>.osl 0) (fun (b,ws,q)=>[(0,.own [.s] (wrongS ws (wordsI b q)) 9)])
theorem ok_i_wrongWords_o:FOk Tryz.prog 206 (sp_i_wrongWords_o std):=by
 refine FOk.go (c:=cx std [(205,sp_i_wordsFormed std),(150,sp_i_selected_string__o std)] [] 0) (cx_ok (.cons ok_i_wordsFormed (.cons ok_i_selected_string__o .nil)) .nil) mixed Tryz.func206 rfl rfl rfl (by kernel_rfl) ?_
 rintro ⟨b,ws,q⟩ hp
 dsimp only at hp
 refine⟨rfl,?_⟩
 unfold sp_i_wordsFormed sp_i_selected_string__o
 generalize hP:std=p,hB0:wrongS=B0,hB1:wordsI=B1
 cbv
 repeat' first
  | (refine fun (_:Unit)=>?_;cbv)
  | (refine aI2 (fun h=>?_) (fun h=>?_)<;>cbv)
  | (refine aI2 ?_ ?_)
  | (refine Or.inl (fun (_:Unit)=>?_);cbv)
 all_goals subst hP hB0 hB1
 all_goals try exact fin
 all_goals simp only [eta_bd,eta_pl] at *
 ·have:=words_len hp.1
  show ((wordsI b q).length : Int)≤_
  omega
theorem ok_i_wrongWords:FOk Tryz.prog 206 (sp_i_wrongWords std):=FOk.frz ok_i_wrongWords_o fun ⟨b,ws,q⟩=>⟨by simp [deep,deeps,AH.get],by simp [PV.idIn,idInL]⟩
theorem mid_of {n:Int} (h:5≤n):std.quo n 2=n/2:=by show Int.tdiv n 2=_;exact Int.tdiv_eq_ediv_of_nonneg (by omega)
theorem sq_is {s:Int×Int} {m:Int} {x:Bool} (h:std.and (std.eqI s.1 m) (std.eqI s.2 m)=x):(s==(m,m))=x:=by
 rw [←h];rfl
theorem touch_no {b:Bd} {q:Pl} (h:emptyB b=false):touchI b q=(decide ((newL b q).length < q.word.length)||decide (1<(wordsI b q).length)):=by
 unfold touchI;rw [if_neg (by rw [show (lettersS b).isEmpty =false from h];simp)]
theorem touch_yes {b:Bd} {q:Pl} (h:emptyB b=true):touchI b q=(nsI b q).any (fun s=>s==(b.size/2,b.size/2)):=by
 unfold touchI;rw [if_pos (show (lettersS b).isEmpty =true from h)];rfl
theorem any_at {α:Type} {L:List α} {f:α→Bool} {k:Int} (h0:0≤k) (h:k<L.length) (d:α):(L.drop k.toNat).any f=(f (L.getD k.toNat d)||(L.drop (k+1).toNat).any f):=by
 rw [dc h0 h d,List.any_cons]
theorem std_le {m n:Nat} : std.ltI (m:Int) (n:Int)=decide (m<n):=by
 show decide ((m:Int)<(n:Int))=_
 simp
def sp_i_touches (p:Pr):FSpec:=fsp (ac (aA aBd) (a1 (aA aPl))) (fun (b,q)=>VP b q) (fun (b,q)=>.b (touchI b q))
theorem ok_i_touches:FOk Tryz.prog 204 (sp_i_touches std):=by
 refine FOk.go (c:=cx std [(203,sp_i_newSquares std),(82,sp_i_Board_blank std),(205,sp_i_wordsFormed std)] [] 0) (cx_ok (.cons ok_i_newSquares (.cons ok_i_Board_blank (.cons ok_i_wordsFormed .nil))) .nil) mixed Tryz.func204 rfl rfl rfl (by kernel_rfl) ?_
 rintro ⟨b,q⟩ hp
 dsimp only at hp
 refine⟨rfl,?_⟩
 unfold sp_i_newSquares sp_i_Board_blank sp_i_wordsFormed
 obtain⟨H,hH⟩ : ∃H:Hd (Int),H=⟨fun k=>0≤k∧k≤(nsI b q).length ∧touchI b q=((nsI b q).drop k.toNat).any (fun s=>s==(b.size/2,b.size/2)),fun k=>((nsI b q).length - k).toNat,(· < ·)⟩:=⟨_,rfl⟩
 have hl : ∀m n,H.lt m n→m<n:=by subst hH;exact fun _ _ h=>h
 generalize hP:std=p,hB0:touchI=B0,hB1:nsI=B1,hB2:wordsI=B2,hB3:emptyB=B3
 cbv
 repeat' first
  | (refine fun (_:Unit)=>?_;cbv)
  | (refine Or.inr ⟨42,[],[.s 41 (.i .i64)],[],[],H,rfl,hl,?_,fun (k:Int) hk=>?_⟩<;>cbv)
  | (refine aI2 (fun h=>?_) (fun h=>?_)<;>cbv)
  | (refine aI2 ?_ ?_)
 all_goals subst hP hB0 hB1 hB2 hB3 hH
 all_goals clear hl
 all_goals try dsimp only at hk
 all_goals try dsimp only
 all_goals try exact fin
 all_goals try simp only [eta_bd,eta_pl] at *
 all_goals (have hwl:=words_len hp;have hn:=newTo_length b q q.word.length;have hw:=hp.hi;have hnl:=ns_len (b:=b) (q:=q);have hn:(newL b q).length ≤q.word.length:=hn)
 all_goals (have hz1:=hp.fit.lo;have hz2:=hp.fit.hi)
 all_goals (have hd:b.size/2≤b.size∧0≤b.size/2:=by omega)
 all_goals try (obtain⟨q0,q1,q2⟩:=hk;have q1:k≤((nsI b q).length : Int):=q1)
 all_goals try (have hlt:k<((nsI b q).length : Int):=lt_of ‹_›)
 ·have h1:decide ((nsI b q).length < q.word.length)=false:=std_le.symm.trans ‹_›
  rw [touch_no ‹_›,←hnl,h1,Bool.false_or]
  show decide ((1:Int)<((wordsI b q).length : Int))=_
  rw [Bool.eq_iff_iff,decide_eq_true_eq,decide_eq_true_eq];omega
 ·have h1:decide ((nsI b q).length < q.word.length)=true:=std_le.symm.trans ‹_›
  rw [touch_no ‹_›,←hnl,h1,Bool.true_or]
 ·have hm:=mid_of hz1
  exact in64 (by show _≤std.quo b.size 2∧std.quo b.size 2≤_;omega)
 ·have hm:=mid_of hz1
  exact in64 (by show _≤std.quo b.size 2∧std.quo b.size 2≤_;omega)
 ·refine⟨Int.le_refl 0,Int.natCast_nonneg _,?_⟩
  rw [touch_yes ‹_›];rfl
 ·have h1:=sq_is (s:=(nsI b q).getD k.toNat (0,0)) ‹_›
  rw [mid_of hz1] at h1
  rw [q2,any_at q0 hlt (0,0),h1,Bool.true_or]
 ·exact in64 (by show _≤k+1∧k+1≤_;omega)
 ·have h1:=sq_is (s:=(nsI b q).getD k.toNat (0,0)) ‹_›
  rw [mid_of hz1] at h1
  refine⟨by show 0≤k+1;omega,by show k+1≤((nsI b q).length : Int);omega,?_⟩
  rw [q2,any_at q0 hlt (0,0),h1,Bool.false_or];rfl
 ·have h1:((nsI b q).length : Int)≤k:=ge_of ‹_›
  rw [q2,List.drop_of_length_le (by omega)];rfl
theorem tp_stp {b:Bd} {q:Pl} (h:VP b q):StP (tilesP (placedI b q)):=by
 refine⟨placed_tiles b q,?_⟩
 have h1:=counts_ct ((placedI b q).map blankC)
 have h2:((placedI b q).map blankC).length ≤12:=by
  have hn:=newTo_length b q q.word.length
  have hw:=h.hi
  rw [List.length_map]
  unfold placedI newL
  rw [List.length_map];omega
 have h3:=pileTo_bd (c:=countsL ((placedI b q).map blankC)) (m:=12) (fun j=>by have:=h1.hi j;omega) 27
 show (pileTo (countsL ((placedI b q).map blankC)) 27).length ≤_
 omega
theorem std_l1 {α:Type} (L:List α):std.ltI 1 (std.len L)=decide (1<L.length):=std_le (m:=1)
theorem std_l0 {α:Type} (L:List α):std.ltI 0 (std.len L)=decide (0<L.length):=std_le (m:=0)
theorem std_e1 (b:Bd) (q:Pl):std.eqI (std.len (nsI b q)) 1=decide ((newL b q).length =1):=by
 rw [←ns_len]
 show decide _=_
 rw [Bool.eq_iff_iff,decide_eq_true_eq,decide_eq_true_eq]
 show ((nsI b q).length : Int)=1↔_
 omega
structure LgP (b:Bd) (ws:List (List UInt8)) (rack:List UInt8) (q:Pl):Prop where
 bd:bdB b=true
 lx:LxP ws
 rk:StP rack
 wl:(q.word.length:Int)≤1073741824
def sp_i_legal (p:Pr):FSpec:=fsp (ac (aA aBd) (ac (aA aLex) (ac aS (a1 (aA aPl))))) (fun (b,ws,rack,q)=>LgP b ws rack q) (fun (b,ws,rack,q)=>.i .i64 (codeI b ws rack q))
theorem ok_i_legal:FOk Tryz.prog 112 (sp_i_legal std):=by
 refine FOk.go (c:=cx std [(202,sp_i_Play_validOn std),(117,sp_i_placedTiles std),(116,sp_i_without std),(203,sp_i_newSquares std),(204,sp_i_touches std),(205,sp_i_wordsFormed std),(206,sp_i_wrongWords std)] [] 0) (cx_ok (.cons ok_i_Play_validOn (.cons ok_i_placedTiles (.cons ok_i_without (.cons ok_i_newSquares (.cons ok_i_touches (.cons ok_i_wordsFormed (.cons ok_i_wrongWords .nil))))))) .nil) mixed Tryz.func112 rfl rfl rfl (by kernel_rfl) ?_
 rintro ⟨b,ws,rack,q⟩ hp
 dsimp only at hp
 refine⟨rfl,?_⟩
 unfold sp_i_Play_validOn sp_i_placedTiles sp_i_without sp_i_newSquares sp_i_touches sp_i_wordsFormed sp_i_wrongWords
 generalize hP:std=p,hB0:codeI=B0,hB1:validI=B1,hB2:placedI=B2,hB3:tilesP=B3,hB4:withoutS=B4,hB5:withoutB=B5,hB6:touchI=B6,hB7:nsI=B7,hB8:wordsI=B8,hB9:wrongS=B9
 cbv
 repeat' first
  | (refine fun (_:Unit)=>?_;cbv)
  | (refine aI2 (fun h=>?_) (fun h=>?_)<;>cbv)
  | (refine aI2 ?_ ?_)
  | (refine Or.inl (fun (_:Unit)=>?_);cbv)
 all_goals subst hP hB0 hB1 hB2 hB3 hB4 hB5 hB6 hB7 hB8 hB9
 all_goals try exact fin
 all_goals try simp only [eta_bd,eta_pl] at *
 all_goals try simp only [std_l1,std_l0,std_e1] at *
 all_goals first
  | exact VP.of hp.bd ‹_›
  | exact bdB.fit hp.bd
  | exact hp.rk
  | exact tp_stp (VP.of hp.bd ‹_›)
  | exact⟨VP.of hp.bd ‹_›,hp.lx⟩
  | exact hp.lx
  | exact hp.wl
  | (unfold codeI;simp [*];done)
  | (unfold codeI;rw [if_pos ‹_›,if_pos ‹_›,if_pos ‹_›,if_neg (by simp [*]),if_pos (of_decide_eq_true ‹_›)])
  | (unfold codeI;simp [*] at *;simp [*];done)
  | skip
end Ax
namespace Ax
set_option maxRecDepth 100000
set_option maxHeartbeats 2000000
theorem emp_is (s:List UInt8):std.eqS s []=s.isEmpty:=by cases s<;>rfl
structure WtP (g:Gm):Prop where
 rk2:g.racks.length=2
 ply:inR g.player 0 1=true
def sp_i_Game_waits (p:Pr):FSpec:=fsp (a1 (aA aGm)) (fun g=>WtP g) (fun g=>.b (waitsB g))
theorem ok_i_Game_waits:FOk Tryz.prog 102 (sp_i_Game_waits std):=by
 refine FOk.go (c:=cx std [] [] 0) (cx_ok .nil .nil) mixed Tryz.func102 rfl rfl rfl (by kernel_rfl) ?_
 rintro g hp
 refine⟨rfl,?_⟩
 generalize hP:std=p,hB0:waitsB=B0,hB1:inR=B1
 cbv
 repeat' first
  | (refine fun (_:Unit)=>?_;cbv)
  | (refine aI2 (fun h=>?_) (fun h=>?_)<;>cbv)
  | (refine aI2 ?_ ?_)
  | (refine Or.inl (fun (_:Unit)=>?_);cbv)
 all_goals subst hP hB0 hB1
 all_goals try exact fin
 all_goals (have h0:=in_bd hp.ply;have hr:=hp.rk2)
 ·exact in64 (by show _≤1-g.player∧1-g.player≤_;omega)
 ·exact⟨by show 0≤1-g.player;omega,by show 1-g.player<(g.racks.length:Int);omega⟩
 ·unfold waitsB
  rw [show g.bag.isEmpty=true by rw [←emp_is];assumption]
  exact emp_is _
 ·unfold waitsB
  rw [show g.bag.isEmpty=false by rw [←emp_is];assumption];rfl
end Ax
namespace Ax
set_option maxRecDepth 100000
set_option maxHeartbeats 2000000
structure GmF (g:Gm):Prop where
 s:g.scores.length=2
 k:g.clocks.length=2
 r:g.racks.length=2
 ply:inR g.player 0 1=true
 clk : ∀k:Int,0≤k→k<2→inR (g.clk k) (-36000) 36000=true
theorem gm_facts {g:Gm} (h:gameB g=true):GmF g:=by
 unfold gameB twoB sideB at h
 simp only [Bool.and_eq_true,decide_eq_true_eq] at h
 refine⟨h.2.1.2.1,h.2.1.2.2.1,h.2.1.1,h.2.1.2.2.2.1,fun k h0 h1=>?_⟩
 have : k=0∨k=1:=by omega
 rcases this with rfl | rfl
 ·exact h.2.2.1.1.2.2
 ·exact h.2.2.1.2.2.2
theorem act_over {g:Gm} {n:Int} (h:gameB g=true) (ho:g.over=true):actC g n=10:=by
 unfold actC;rw [if_pos h,if_pos ho]
theorem act_2a {g:Gm} {n:Int} (h:gameB g=true) (ho:g.over=false) (hn:inR n 0 36000=false):actC g n=2:=by
 unfold actC;rw [if_pos h,if_neg (by rw [ho];simp),hn,if_neg (by simp)]
theorem act_2b {g:Gm} {n:Int} (h:gameB g=true) (ho:g.over=false) (hn:std.ltI (g.clk g.player-n) (-36000)=true):actC g n=2:=by
 have h1:=lt_of hn
 unfold actC;rw [if_pos h,if_neg (by rw [ho];simp),decide_eq_false (by omega),Bool.and_false,if_neg (by simp)]
theorem act_go {g:Gm} {n:Int} (h:gameB g=true) (ho:g.over=false) (hi:inR n 0 36000=true) (hn:std.ltI (g.clk g.player-n) (-36000)=false):actC g n=if inR (g.sc 0) (-50000) 50000&&inR (g.sc 1) (-50000) 50000 then 0 else 5:=by
 have h1:=ge_of hn
 unfold actC;rw [if_pos h,if_neg (by rw [ho];simp),hi,decide_eq_true (by omega)];rfl
theorem act_k {a b:Bool} {k:Int} (h0:0≤k) (h1:k<2) (ha:k=0→a=false) (hb:k=1→b=false):(if (a&&b)=true then (0:Int) else 5)=5:=by
 have : k=0∨k=1:=by omega
 rcases this with h | h
 ·rw [ha h];rfl
 ·rw [hb h,Bool.and_false];rfl
def sp_i_actionCode (p:Pr):FSpec:=fsp (ac (aA aGm) (a1 aI)) (fun (g,n)=>GmQ g) (fun (g,n)=>.i .i64 (actC g n))
theorem ok_i_actionCode:FOk Tryz.prog 99 (sp_i_actionCode std):=by
 refine FOk.go (c:=cx std [(16,sp_i_ValidGame std),(83,sp_i_within std)] [] 0) (cx_ok (.cons ok_i_ValidGame (.cons ok_i_within .nil)) .nil) mixed Tryz.func99 rfl rfl rfl (by kernel_rfl) ?_
 rintro ⟨g,n⟩ hp
 dsimp only at hp
 refine⟨rfl,?_⟩
 unfold sp_i_ValidGame sp_i_within
 obtain⟨H,hH⟩ : ∃H:Hd (Int),H=⟨fun k=>0≤k∧k≤2∧(0<k→inR (g.scores.getD 0 0) (-50000) 50000=true)∧(1<k→inR (g.scores.getD 1 0) (-50000) 50000=true),fun k=>(2-k).toNat,(· < ·)⟩:=⟨_,rfl⟩
 have hl : ∀m n,H.lt m n→m<n:=by subst hH;exact fun _ _ h=>h
 generalize hP:std=p,hB0:actC=B0,hB1:gameB=B1,hB2:inR=B2
 cbv
 repeat' first
  | (refine fun (_:Unit)=>?_;cbv)
  | (refine Or.inr ⟨33,[],[.s 32 (.i .i64)],[],[],H,rfl,hl,?_,fun (k:Int) hk=>?_⟩<;>cbv)
  | (refine aI2 (fun h=>?_) (fun h=>?_)<;>cbv)
  | (refine aI2 ?_ ?_)
 all_goals subst hP hB0 hB1 hB2 hH
 all_goals clear hl
 all_goals try dsimp only at hk
 all_goals try dsimp only
 all_goals try exact fin
 all_goals try (have hf:=gm_facts (show gameB g=true by assumption))
 all_goals try (have hpl:=in_bd hf.ply)
 all_goals try (have hck:=in_bd (hf.clk g.player hpl.1 (by omega)))
 all_goals try (have hn:=in_bd (show inR n 0 36000=true by assumption))
 all_goals try (obtain⟨q0,q1,q2,q3⟩:=hk)
 all_goals try (have hss:=hf.s)
 all_goals try (have hlt:k<2:=by have h7:k<(g.scores.length:Int):=lt_of ‹_›;omega)
 all_goals try (have hge:2≤k:=by have h7:(g.scores.length:Int)≤k:=ge_of ‹_›;omega)
 ·unfold actC;rw [if_neg (by rw [show gameB g=false by assumption];simp)]
 ·rw [act_over ‹_› ‹_›]
 ·exact⟨hpl.1,by show g.player<(g.clocks.length:Int);have:=hf.k;omega⟩
 ·exact in64 (by show _≤g.clk g.player-n∧g.clk g.player-n≤_;omega)
 ·rw [act_2b ‹_› ‹_› ‹_›]
 ·have hb:inR (g.sc k) (-50000) 50000=false:=by assumption
  rw [act_go ‹_› ‹_› ‹_› ‹_›,act_k q0 hlt (fun e=>by rw [←e];exact hb) (fun e=>by rw [←e];exact hb)]
 ·have hb:inR (g.sc k) (-50000) 50000=true:=by assumption
  have : k=0∨k=1:=by omega
  rcases this with rfl | rfl
  ·exact⟨by decide,by decide,fun _=>hb,fun h=>absurd h (by decide)⟩
  ·exact⟨by decide,by decide,fun _=>q2 (by decide),fun _=>hb⟩
 ·show (2-(k+1)).toNat < (2-k).toNat
  omega
 ·have a0:inR (g.sc 0) (-50000) 50000=true:=q2 (by omega)
  have a1:inR (g.sc 1) (-50000) 50000=true:=q3 (by omega)
  rw [act_go ‹_› ‹_› ‹_› ‹_›,a0,a1];rfl
 ·rw [act_2a ‹_› ‹_› ‹_›]
structure TdP (a b:List UInt8):Prop where
 a:a.length≤274877906944
 b:b.length≤274877906944
def sp_i_toDraw (p:Pr):FSpec:=fsp (ac aS (a1 aS)) (fun (a,b)=>TdP a b) (fun (a,b)=>.i .i64 (tdI a b))
theorem ok_i_toDraw:FOk Tryz.prog 118 (sp_i_toDraw std):=by
 refine FOk.go (c:=cx std [] [] 0) (cx_ok .nil .nil) mixed Tryz.func118 rfl rfl rfl (by kernel_rfl) ?_
 rintro ⟨a,b⟩ hp
 dsimp only at hp
 refine⟨rfl,?_⟩
 generalize hP:std=p,hB0:tdI=B0
 cbv
 repeat' first
  | (refine fun (_:Unit)=>?_;cbv)
  | (refine aI2 (fun h=>?_) (fun h=>?_)<;>cbv)
  | (refine aI2 ?_ ?_)
  | (refine Or.inl (fun (_:Unit)=>?_);cbv)
 all_goals subst hP hB0
 all_goals try exact fin
 ·have h1:=hp.b
  exact in64 (by show _≤7-(b.length:Int)∧7-(b.length:Int)≤_;omega)
def sp_i_penalty (p:Pr):FSpec:=fsp (a1 aI) (fun n=>p.leP (-36000) n) (fun n=>.i .i64 (pen n))
theorem ok_i_penalty:FOk Tryz.prog 97 (sp_i_penalty std):=by
 refine FOk.go (c:=cx std [] [] 0) (cx_ok .nil .nil) mixed Tryz.func97 rfl rfl rfl (by kernel_rfl) ?_
 rintro n hp
 refine⟨rfl,?_⟩
 generalize hP:std=p,hB0:pen=B0
 cbv
 repeat' first
  | (refine fun (_:Unit)=>?_;cbv)
  | (refine aI2 (fun h=>?_) (fun h=>?_)<;>cbv)
  | (refine aI2 ?_ ?_)
  | (refine Or.inl (fun (_:Unit)=>?_);cbv)
 all_goals subst hP hB0
 all_goals try exact fin
 ·simp [std] at h;simp [pen,h]
 ·simp [std] at h
  have h1 : ¬0≤n:=by omega
  have h2:(59-n).tdiv 60=(59-n)/60:=Int.tdiv_eq_ediv_of_nonneg (by omega)
  have h3:(0-n+59)=59-n:=by omega
  simp [std,pen,h1]
  first | (rw [←h2];congr 2;omega) | (rw [show -n+59=59-n by omega,h2]) | (rw [h3,h2])
def sp_i_Game_finalChange_o (p:Pr):FSpec:=fsp (a1 (aA aGm)) (fun g=>EndP g) (fun g=>.osl 0) (fun g=>[(0,.own [.i .i64] (chgs g) 2)])
theorem ok_i_Game_finalChange_o:FOk Tryz.prog 94 (sp_i_Game_finalChange_o std):=by
 refine FOk.go (c:=cx std [(190,sp_i_lettersValue std),(97,sp_i_penalty std)] [] 0) (cx_ok (.cons ok_i_lettersValue (.cons ok_i_penalty .nil)) .nil) mixed Tryz.func94 rfl rfl rfl (by kernel_rfl) ?_
 rintro g hp
 refine⟨rfl,?_⟩
 unfold sp_i_lettersValue sp_i_penalty
 obtain⟨H,hH⟩ : ∃H:Hd (Int×List Int),H=⟨fun (k,L)=>0≤k∧k≤2∧L=(chgs g).take k.toNat,fun (k,L)=>(2-k).toNat,(· < ·)⟩:=⟨_,rfl⟩
 have hl : ∀m n,H.lt m n→m<n:=by subst hH;exact fun _ _ h=>h
 generalize hP:std=p,hB0:chgs=B0,hB1:sumT=B1,hB2:pen=B2
 cbv
 repeat' first
  | (refine fun (_:Unit)=>?_;cbv)
  | (refine Or.inr ⟨12,[],[.s 11 (.i .i64),.o 1 [.i .i64]],[.s 3],[],H,rfl,hl,?_,fun ((k,L):Int×List Int) hk=>?_⟩<;>cbv)
  | (refine aI2 (fun h=>?_) (fun h=>?_)<;>cbv)
  | (refine aI2 ?_ ?_)
 all_goals subst hP hB0 hB1 hB2 hH
 all_goals clear hl
 all_goals try dsimp only at hk
 all_goals try dsimp only
 all_goals try exact fin
 all_goals obtain⟨q0,q1,rfl⟩:=hk
 all_goals have a1:=e_sum hp k
 all_goals have a2:=e_pen hp k
 all_goals have a3:=e_sum hp (1-k)
 all_goals have a4:=hp.rk
 all_goals have a5:=hp.ck
 all_goals have a6:=hp.len k
 all_goals have a7:=hp.len (1-k)
 all_goals have a8:=hp.clk k
 all_goals try (have h1:k<2:=by have h7:k<(g.racks.length:Int):=lt_of ‹_›;omega)
 ·exact ltM_of (n:=(g.rk k).length) (by omega)
 ·exact in64 (by show _≤0-sumT g.ts (g.rk k)∧0-sumT g.ts (g.rk k)≤_;omega)
 ·exact⟨q0,by show k<(g.clocks.length:Int);omega⟩
 ·exact a8
 ·exact in64 (by show _≤0-sumT g.ts (g.rk k)-pen (g.clk k)∧0-sumT g.ts (g.rk k)-pen (g.clk k)≤_;omega)
 ·exact⟨by show 0≤1-k;omega,by show 1-k<(g.racks.length:Int);omega⟩
 ·exact ltM_of (n:=(g.rk (1-k)).length) (by omega)
 ·exact in64 (by show _≤0-sumT g.ts (g.rk k)-pen (g.clk k)+sumT g.ts (g.rk (1-k))∧0-sumT g.ts (g.rk k)-pen (g.clk k)+sumT g.ts (g.rk (1-k))≤_;omega)
 ·show (((chgs g).take k.toNat).length : Int)+1≤_
  rw [List.length_take];omega
 ·refine⟨by show 0≤k+1;omega,by show k+1≤2;omega,?_⟩
  show (chgs g).take k.toNat++[0-sumT g.ts (g.rk k)-pen (g.clk k)+sumT g.ts (g.rk (1-k))]=(chgs g).take (k+1).toNat
  rw [e_yes (k:=k) ‹_›,chgs_step q0 h1]
 ·show (2-(k+1)).toNat < (2-k).toNat
  omega
 ·show (((chgs g).take k.toNat).length : Int)+1≤_
  rw [List.length_take];omega
 ·refine⟨by show 0≤k+1;omega,by show k+1≤2;omega,?_⟩
  show (chgs g).take k.toNat++[0-sumT g.ts (g.rk k)-pen (g.clk k)]=(chgs g).take (k+1).toNat
  rw [e_no (k:=k) ‹_›,chgs_step q0 h1]
 ·show (2-(k+1)).toNat < (2-k).toNat
  omega
 ·have h7:(g.racks.length:Int)≤k:=ge_of ‹_›
  rw [tk_all (show ((chgs g).length : Int)≤k by show (2:Int)≤k;omega)]
def frC (a b:List UInt8):Int:=if bagB a&&rackB b then 0 else 1
theorem td_bd {a b:List UInt8} (h:rackB b=true):0≤tdI a b∧tdI a b≤a.length∧tdI a b≤7:=by
 have:=rack_len h
 unfold tdI;omega
theorem fr_stp {a b:List UInt8} {n:Nat} (ha:bagB a=true) (hb:rackB b=true):StP (b++a.take n):=by
 have h1:=(bag_stp ha).ti
 have h2:=(rack_stp hb).ti
 have h3:=bag_len ha
 have h4:=rack_len hb
 refine⟨?_,by rw [List.length_append,List.length_take];omega⟩
 rw [List.all_append,h2,Bool.true_and]
 exact List.all_eq_true.2 fun x hx=>List.all_eq_true.1 h1 x (List.mem_of_mem_take hx)
def sp_i_FillRack (p:Pr):FSpec:=fsp (ac aS (a1 aS)) (fun (a,b)=>TdP a b) (fun (a,b)=>.tup [.s (frR a b),.s (frB a b),.i .i64 (frC a b)])
theorem ok_i_FillRack:FOk Tryz.prog 120 (sp_i_FillRack std):=by
 refine FOk.go (c:=cx std [(68,sp_i_ValidBag std),(84,sp_i_ValidRack std),(118,sp_i_toDraw std),(69,sp_i_sorted std)] [] 0) (cx_ok (.cons ok_i_ValidBag (.cons ok_i_ValidRack (.cons ok_i_toDraw (.cons ok_i_sorted .nil)))) .nil) mixed Tryz.func120 rfl rfl rfl (by kernel_rfl) ?_
 rintro ⟨a,b⟩ hp
 dsimp only at hp
 refine⟨rfl,?_⟩
 unfold sp_i_ValidBag sp_i_ValidRack sp_i_toDraw sp_i_sorted
 generalize hP:std=p,hB0:frR=B0,hB1:frB=B1,hB2:frC=B2,hB3:tdI=B3,hB4:bagB=B4,hB5:rackB=B5,hB6:pileL=B6,hB7:countsL=B7
 cbv
 repeat' first
  | (refine fun (_:Unit)=>?_;cbv)
  | (refine aI2 (fun h=>?_) (fun h=>?_)<;>cbv)
  | (refine aI2 ?_ ?_)
  | (refine Or.inl (fun (_:Unit)=>?_);cbv)
 all_goals subst hP hB0 hB1 hB2 hB3 hB4 hB5 hB6 hB7
 all_goals try exact fin
 all_goals try (have hr:rackB b=true:=‹_›;have ht:=td_bd (a:=a) hr;have hrl:=rack_len hr)
 all_goals try (have hb:bagB a=true:=‹_›;have hbl:=bag_len hb)
 all_goals try (have hn:rackB b=false:=by assumption)
 all_goals try (have hm:bagB a=false:=by assumption)
 ·exact ltM_of hp.a
 ·exact ltM_of hp.b
 ·unfold frR;rw [hn];simp
 ·unfold frB;rw [hn];simp
 ·unfold frC;rw [hn];simp
 ·exact ht.1
 ·exact ht.2.1
 ·have h5:(a.take (tdI a b).toNat).length ≤a.length:=by rw [List.length_take];omega
  exact in64 (by show _≤(b.length:Int)+((a.take (tdI a b).toNat).length : Int)∧(b.length:Int)+((a.take (tdI a b).toNat).length : Int)≤_;omega)
 ·exact fr_stp hb hr
 ·exact ht.1
 ·exact ht.2.1
 ·unfold frR;rw [hb,hr];rfl
 ·unfold frB;rw [hb,hr];rfl
 ·unfold frC;rw [hb,hr];rfl
 ·unfold frR;rw [hm];simp
 ·unfold frB;rw [hm];simp
 ·unfold frC;rw [hm];simp
structure GcP (g:Gm):Prop where
 su:SuC (gSu g)
 r:(g.racks.length:Int)≤1073741824
 s:(g.scores.length:Int)≤1073741824
 k:(g.clocks.length:Int)≤1073741824
def sp_i_copyGame (p:Pr):FSpec:=fsp (a1 (aA aGm)) (fun g=>GcP g) (fun g=>.ptr 0 0) (fun g=>gmH g)
theorem ok_i_copyGame:FOk Tryz.prog 114 (sp_i_copyGame std):=by
 refine FOk.go (c:=cx std [(71,sp_i_copySetup std),(209,sp_cloneN std),(208,sp_cloneW std)] [] 0) (cx_ok (.cons ok_i_copySetup (.cons ok_cloneN (.cons ok_cloneW .nil))) .nil) mixed Tryz.func114 rfl rfl rfl (by kernel_rfl) ?_
 rintro g hp
 refine⟨rfl,?_⟩
 unfold sp_i_copySetup sp_cloneN sp_cloneW
 generalize hP:std=p
 cbv
 repeat' first
  | (refine fun (_:Unit)=>?_;cbv)
  | (refine aI2 (fun h=>?_) (fun h=>?_)<;>cbv)
  | (refine aI2 ?_ ?_)
  | (refine Or.inl (fun (_:Unit)=>?_);cbv)
 all_goals subst hP
 all_goals try exact fin
 all_goals first | exact hp.su | exact hp.r | exact hp.s | exact hp.k | skip
end Ax
namespace Ax
set_option maxRecDepth 100000
set_option maxHeartbeats 2000000
def txV (σ:Src) (l:List (List UInt8)):List UInt8:=l.getD (pkV σ l.length).toNat []
end Ax
namespace Ax
set_option maxRecDepth 100000
set_option maxHeartbeats 2000000
def setS (g:Gm) (b:Bool):List Int:=if b then setSc g else g.scores
def ovB (g:Gm) (b:Bool):Bool:=g.over||b
def setT (g:Gm) (k:Int):List Int:=[if 0<k then g.sc 0+chg g 0 else g.sc 0,if 1<k then g.sc 1+chg g 1 else g.sc 1]
structure SetQ (g:Gm) (b:Bool):Prop where
 s:b=true→SetP g
theorem two_list {L:List Int} (h:L.length=2):L=[L.getD 0 0,L.getD 1 0]:=by
 match L,h with
 | [a,b],_=>rfl
theorem setT_0 {g:Gm} (h:g.scores.length=2):g.scores=setT g 0:=two_list h
theorem setT_2 (g:Gm) {k:Int} (h:2≤k):setT g k=setSc g:=by
 unfold setT setSc
 rw [if_pos (by omega),if_pos (by omega)]
theorem setT_s (g:Gm) {k:Int} (h0:0≤k) (h1:k<2):(setT g k).set k.toNat ((setT g k).getD k.toNat 0+(chgs g).getD k.toNat 0)=setT g (k+1):=by
 have : k=0∨k=1:=by omega
 rcases this with rfl | rfl<;>simp [setT,chgs]
theorem setT_n {g:Gm} (h:SetP g) {k:Int} (h0:0≤k) (h1:k<2) : -9223372036854775808≤(setT g k).getD k.toNat 0+(chgs g).getD k.toNat 0∧(setT g k).getD k.toNat 0+(chgs g).getD k.toNat 0≤9223372036854775807:=by
 have : k=0∨k=1:=by omega
 have a0:=set_num h 0
 have a1:=set_num h 1
 rcases this with rfl | rfl
 ·simpa [setT,chgs] using a0
 ·simpa [setT,chgs] using a1
def sp_i_xGame_settle (p:Pr):MSpec:=msp (mG (a1 aB)) (fun (g,b)=>SetQ g b) (fun (g,b)=>.tup []) (fun (g,b)=>gmH { g with scores:=setS g b,over:=ovB g b })
theorem ok_i_xGame_settle:MOk Tryz.prog 101 (sp_i_xGame_settle std):=by
 refine MOk.go (c:=cx std [(94,sp_i_Game_finalChange_o std)] [] 7) (cx_ok (.cons ok_i_Game_finalChange_o .nil) .nil) mixed Tryz.func101 rfl rfl (by kernel_rfl) ?_
 rintro ⟨g,b⟩ hp
 dsimp only at hp
 refine⟨rfl,?_⟩
 unfold sp_i_Game_finalChange_o
 obtain⟨H,hH⟩ : ∃H:Hd (Int×List Int),H=⟨fun (k,L)=>0≤k∧k≤2∧L=setT g k,fun (k,L)=>(2-k).toNat,(· < ·)⟩:=⟨_,rfl⟩
 have hl : ∀m n,H.lt m n→m<n:=by subst hH;exact fun _ _ h=>h
 generalize hP:std=p,hB0:chgs=B0,hB1:setS=B1,hB2:setT=B2,hB3:ovB=B3
 cbv
 repeat' first
  | (refine fun (_:Unit)=>?_;cbv)
  | (refine Or.inr ⟨14,[],[.s 13 (.i .i64),.o 5 [.i .i64]],[],[],H,rfl,hl,?_,fun ((k,L):Int×List Int) hk=>?_⟩<;>cbv)
  | (refine aI2 (fun h=>?_) (fun h=>?_)<;>cbv)
  | (refine aI2 ?_ ?_)
 all_goals subst hP hB0 hB1 hB2 hB3 hH
 all_goals clear hl
 all_goals try dsimp only at hk
 all_goals try dsimp only
 all_goals try exact fin
 ·unfold ovB;rw [show b=false by assumption,Bool.or_false]
 ·unfold setS;rw [show b=false by assumption];rfl
 all_goals (have hs:=hp.s ‹_›)
 ·exact hs.en
 ·exact⟨Int.le_refl 0,by decide,setT_0 hs.len⟩
 all_goals obtain⟨q0,q1,rfl⟩:=hk
 all_goals try (have hlt:k<2:=lt_of ‹_›)
 ·exact⟨q0,hlt⟩
 ·exact⟨q0,hlt⟩
 ·exact in64 (setT_n hs q0 hlt)
 ·exact⟨q0,hlt⟩
 ·exact⟨q0,hlt⟩
 ·exact⟨by show 0≤k+1;omega,by show k+1≤2;omega,setT_s g q0 hlt⟩
 ·show (2-(k+1)).toNat < (2-k).toNat
  omega
 ·unfold ovB;rw [show b=true by assumption,Bool.or_true]
 ·have hge:(2:Int)≤k:=ge_of ‹_›
  unfold setS;rw [show b=true by assumption,setT_2 g hge];rfl
end Ax
namespace Ax
set_option maxRecDepth 100000
set_option maxHeartbeats 2000000
structure PtY (g:Gm) (q:Pl) (n:Int):Prop where
 b:PtP g q
 c:turnC g q n=0
structure PtN (g:Gm) (q:Pl) (n:Int):Prop where
 b:PtP g q
 c:turnC g q n≠0
def pEnd (g:Gm) (q:Pl):Bool:=g.rule==0&&(pRack g q).isEmpty
def pSs (g:Gm) (q:Pl) (n:Int):List Int:=setS (p1 g q n) (pEnd g q)
def pOv (g:Gm) (q:Pl):Bool:=ovB g (pEnd g q)
def pPl (g:Gm):Int:=1-g.player
def pG (g:Gm) (q:Pl) (n:Int):Gm:=⟨g.ts,g.lex,g.bd0,g.secs,g.rule,⟨(pCel g q).size,(pCel g q).prem,(pCel g q).cells⟩,pBag g q,pRks g q,pSs g q n,pClk g n,pPl g,0,⟨1,g.player,q,g.bd.cells,pDrw g q,pScore g q,g.zeros⟩,pOv g q⟩
section
variable {g:Gm} {q:Pl} {n:Int}
theorem pe1 (hc:turnC g q n=0) (h:std.eqI (actC g n) 0=false):False:=by
 have h1:=eqI_f h
 unfold turnC at hc
 rw [if_neg h1] at hc
 exact h1 hc
theorem pe2 (hc:turnC g q n=0) (h:std.eqI (actC g n) 0=true) (h2:waitsB g=true):False:=by
 have h1:=eqI_t h
 unfold turnC at hc
 rw [if_pos h1,if_pos h2] at hc
 exact absurd hc (by decide)
theorem pe3 (hc:turnC g q n=0) (h:std.eqI (actC g n) 0=true) (h2:waitsB g=false) (h3:std.eqI (codeI g.bd g.lex (g.rk g.player) q) 0=false) (h4:std.eqI (codeI g.bd g.lex (g.rk g.player) q) 9=false∨std.eqI g.rule 0=true):False:=by
 have h1:=eqI_t h
 have h3:=eqI_f h3
 unfold turnC at hc
 rw [if_pos h1,if_neg (by rw [h2];simp),if_pos ⟨h3,h4.imp eqI_f eqI_t⟩] at hc
 exact h3 hc
theorem pe4 (hc:turnC g q n=0) (h:std.eqI (actC g n) 0=true) (h2:waitsB g=false) (h5:std.ltI 20000 (scoreI g.ts g.bd q)=true∨std.ltI 50000 (g.sc g.player+scoreI g.ts g.bd q)=true):False:=by
 have h1:=eqI_t h
 unfold turnC at hc
 rw [if_pos h1,if_neg (by rw [h2];simp)] at hc
 split at hc
 ·rename_i h6;exact h6.1 hc
 ·rw [if_pos (h5.imp lt_of lt_of)] at hc
  exact absurd hc (by decide)
structure PyG (g:Gm) (n:Int):Prop where
 fa:GmF g
 ok:GmS' g
 n:0≤n∧n≤36000
theorem pyg (h:std.eqI (actC g n) 0=true):PyG g n:=by
 have h:=eqI_t h
 unfold actC at h
 by_cases h1:gameB g=true
 ·rw [if_pos h1] at h
  by_cases h2:g.over=true
  ·rw [if_pos h2] at h;exact absurd h (by decide)
  ·rw [if_neg h2] at h
   by_cases h3:(inR n 0 36000&&decide (-36000≤g.clk g.player-n))=true
   ·rw [Bool.and_eq_true] at h3
    exact⟨gm_facts h1,gm_s' h1,in_bd h3.1⟩
   ·rw [if_neg h3] at h;exact absurd h (by decide)
 ·rw [if_neg h1] at h;exact absurd h (by decide)
structure PyC (g:Gm) (q:Pl):Prop where
 vp:VP g.bd q
 rk:rackB (restT g q)=true
theorem pyc (hG:PyG g n) (h:std.eqI (codeI g.bd g.lex (g.rk g.player) q) 0=true∨std.eqI (codeI g.bd g.lex (g.rk g.player) q) 9=true):PyC g q:=by
 obtain⟨h1,h2⟩:=codeI_no2 (h.imp eqI_t eqI_t)
 exact⟨VP.of hG.ok.bd h1,(restT_ok hG.ok.bd (hG.ok.rk _) h1 h2).2.2⟩
theorem lex_lxp {ws:List (List UInt8)} (h:lexB ws=true):LxP ws:=by
 unfold lexB at h
 rw [Bool.and_eq_true,decide_eq_true_eq,lex_adj,Bool.and_eq_true] at h
 exact⟨by rw [inc_adj];exact h.1.1,by omega⟩
theorem sco_bd {t:TS} {b:Bd} (h:TsOk t) (hp:VP b q):0≤scoreI t b q∧scoreI t b q≤134306167810:=by
 have h1:=score_bd h hp
 unfold scoreI
 split<;>omega
theorem turn_of (hc:turnC g q n=0):PyG g n∧PyC g q:=by
 unfold turnC at hc
 by_cases h1:actC g n=0
 ·have hG:PyG g n:=pyg (by simpa using h1)
  rw [if_pos h1] at hc
  refine⟨hG,pyc hG ?_⟩
  by_cases h2:waitsB g=true
  ·rw [if_pos h2] at hc;exact absurd hc (by decide)
  ·rw [if_neg h2] at hc
   by_cases h3:codeI g.bd g.lex (g.rk g.player) q=0
   ·exact .inl (by simpa using h3)
   ·by_cases h4:codeI g.bd g.lex (g.rk g.player) q=9
    ·exact .inr (by simpa using h4)
    ·rw [if_pos ⟨h3,.inl h4⟩] at hc
     exact absurd hc h3
 ·rw [if_neg h1] at hc
  exact absurd hc h1
theorem td_nat (h:rackB (restT g q)=true):(tdI g.bag (restT g q)).toNat =drawN g.bag (restT g q):=by
 have:=rack_len h
 unfold tdI drawN;omega
theorem rack_eq (hG:PyG g n) (hC:PyC g q):pRack g q=isort (restT g q++g.bag.take (drawN g.bag (restT g q))):=by
 unfold pRack frR
 rw [hG.ok.bag,hC.rk,td_nat hC.rk]
 exact sort_pile (fr_stp hG.ok.bag hC.rk).ti
theorem turn_sc (hc:turnC g q n=0):scoreI g.ts g.bd q≤20000:=by
 unfold turnC at hc
 by_cases h1:actC g n=0
 ·rw [if_pos h1] at hc
  by_cases h2:waitsB g=true
  ·rw [if_pos h2] at hc;exact absurd hc (by decide)
  ·rw [if_neg h2] at hc
   split at hc
   ·rename_i h6;exact absurd hc h6.1
   ·split at hc
    ·exact absurd hc (by decide)
    ·rename_i h7;omega
 ·rw [if_neg h1] at hc
  exact absurd hc h1
theorem turn_ck (hc:turnC g q n=0) : -36000≤g.clk g.player-n:=by
 unfold turnC at hc
 by_cases h1:actC g n=0
 ·have h:=h1
  unfold actC at h
  split at h
  ·split at h
   ·exact absurd h (by decide)
   ·split at h
    ·rename_i h3
     rw [Bool.and_eq_true,decide_eq_true_eq] at h3
     exact h3.2
    ·exact absurd h (by decide)
  ·exact absurd h (by decide)
 ·rw [if_neg h1] at hc
  exact absurd hc h1
theorem pRack_len (hG:PyG g n) (hC:PyC g q):(pRack g q).length ≤7:=by
 have h1:=rack_len hC.rk
 rw [rack_eq hG hC,isort_length,List.length_append,List.length_take]
 unfold drawN;omega
theorem set_bd {α:Type} {L:List α} {i k:Nat} {x d:α} {P:α→Prop} (hx:P x) (h:P (L.getD k d)):P ((L.set i x).getD k d):=by
 rw [List.getD_eq_getElem?_getD,List.getElem?_set]
 rw [List.getD_eq_getElem?_getD] at h
 split
 ·split
  ·exact hx
  ·rename_i e1 e2
   subst e1
   rw [List.getElem?_eq_none (by omega)] at h
   exact h
 ·exact h
theorem set_q (hc:turnC g q n=0) (b:Bool):SetQ (p1 g q n) b:=by
 obtain⟨hG,hC⟩:=turn_of hc
 have hs:=turn_sc hc
 have hts:=tsB_ok hG.ok.ts
 have hsb:=sco_bd hts hC.vp
 have hsc:=hG.ok.sc g.player
 have hck:=hG.ok.clk g.player
 have hn:=hG.n
 have hz : ∀k:Int, -1000000≤(p1 g q n).sc k∧(p1 g q n).sc k≤1000000:=fun k=>
  set_bd (P:=fun x:Int=> -1000000≤x∧x≤1000000) (L:=g.scores) (i:=g.player.toNat) (k:=k.toNat) (x:=g.sc g.player+pScore g q) (d:=0) (by show -1000000≤g.sc g.player+scoreI g.ts g.bd q∧g.sc g.player+scoreI g.ts g.bd q≤1000000;omega) (by have:=hG.ok.sc k;unfold Gm.sc at this;omega)
 have hw : ∀k:Int, -36000≤(p1 g q n).clk k:=fun k=>
  set_bd (P:=fun x:Int=> -36000≤x) (L:=g.clocks) (i:=g.player.toNat) (k:=k.toNat) (x:=g.clk g.player-n) (d:=0) (turn_ck hc) (by have:=hG.ok.clk k;unfold Gm.clk at this;omega)
 refine⟨fun _=>⟨⟨hts,?_,?_,fun k=>?_,hw⟩,?_,fun k=>(hz k).1,fun k=>(hz k).2⟩⟩
 ·show (g.racks.set g.player.toNat (pRack g q)).length =2
  rw [List.length_set];exact hG.fa.r
 ·show (g.clocks.set g.player.toNat (g.clk g.player-n)).length =2
  rw [List.length_set];exact hG.fa.k
 ·exact set_bd (P:=fun x:List UInt8=>x.length≤7) (L:=g.racks) (i:=g.player.toNat) (k:=k.toNat) (x:=pRack g q) (d:=[]) (pRack_len hG hC) (rack_len (hG.ok.rk k))
 ·show (g.scores.set g.player.toNat (g.sc g.player+pScore g q)).length =2
  rw [List.length_set];exact hG.fa.s
theorem end_no (h:std.eqI g.rule 0=false):pEnd g q=false:=by
 unfold pEnd
 rw [show (g.rule==0)=false from h];rfl
theorem end_yes (hG:PyG g n) (h:std.eqI g.rule 0=true):std.eqS (std.get [] (std.set g.racks g.player (pRack g q)) g.player) []=pEnd g q:=by
 have hp:=in_bd hG.fa.ply
 have hr:=hG.fa.r
 unfold pEnd
 rw [show (g.rule==0)=true from h,Bool.true_and,emp_is]
 show ((g.racks.set g.player.toNat (pRack g q)).getD g.player.toNat []).isEmpty =_
 rw [List.getD_eq_getElem?_getD,List.getElem?_set_self (by omega)];rfl
theorem ss_no (h:std.eqI g.rule 0=false):setS (p1 g q n) false=pSs g q n:=by unfold pSs;rw [end_no h]
theorem ss_yes (hG:PyG g n) (h:std.eqI g.rule 0=true):setS (p1 g q n) (std.eqS (std.get [] (std.set g.racks g.player (pRack g q)) g.player) [])=pSs g q n:=by unfold pSs;rw [end_yes hG h]
theorem ov_no (h:std.eqI g.rule 0=false):ovB (p1 g q n) false=pOv g q:=by unfold pOv;rw [end_no h];rfl
theorem ov_yes (hG:PyG g n) (h:std.eqI g.rule 0=true):ovB (p1 g q n) (std.eqS (std.get [] (std.set g.racks g.player (pRack g q)) g.player) [])=pOv g q:=by unfold pOv;rw [end_yes hG h];rfl
end
end Ax
namespace Ax
set_option maxRecDepth 100000
set_option maxHeartbeats 2000000
def mSW:MArgs (Src×List (List UInt8)):=⟨fun H l=>match H,l with
 | [x,y],[.ptr 0 0,.osl 1]=>match srT x,hW y with
   | some σ,some (1,L)=>some (σ,L)
   | _,_=>none
 | _,_=>none,fun a=>[(0,.cells (srK a.1) 159),(1,.own [.s] a.2 9)],fun _=>[.ptr 0 0,.osl 1],fun H l a h=>by
   split at h
   ·split at h
    ·rename_i h0 h1
     cases h
     exact⟨by rw [srT_ok h0,hW_ok h1],rfl⟩
    ·cases h
   ·cases h⟩
def sp_textO (p:Pr):MSpec:=msp mSW (fun (σ,l)=>SrOk 999999999000 σ∧1≤(l.length:Int)∧(l.length:Int)≤1048576) (fun (σ,l)=>.s (txV σ l)) (fun (σ,l)=>[(0,.cells (srK (pkS σ l.length)) 159),(1,.own [.s] l 9)])
theorem ok_textO:MOk Tryz.prog 193 (sp_textO std):=by
 refine MOk.go (c:=cx std [] [(64,sp_s_xl00Src_pick std)] 2) (cx_ok .nil (.cons ok_s_xl00Src_pick .nil)) mixed Tryz.func193 rfl rfl (by kernel_rfl) ?_
 rintro ⟨σ,l⟩ hp
 dsimp only at hp
 refine⟨rfl,?_⟩
 unfold sp_s_xl00Src_pick
 generalize hP:std=p,hB0:txV=B0,hB1:pkV=B1,hB2:pkS=B2
 cbv
 repeat' first
  | (refine fun (_:Unit)=>?_;cbv)
  | (refine aI2 (fun h=>?_) (fun h=>?_)<;>cbv)
  | (refine aI2 ?_ ?_)
  | (refine Or.inl (fun (_:Unit)=>?_);cbv)
 all_goals subst hP hB0 hB1 hB2
 all_goals try exact fin
 all_goals exact⟨(pk_bd hp.1).1,(pk_bd hp.1).2.1 hp.2.1⟩
end Ax
namespace Ax
set_option maxRecDepth 100000
set_option maxHeartbeats 20000000
def secV (σ:Src):Int:=if pkV σ 12=0 then amV (pkS σ 12) [-1,0,36000,36001] else pkV (pkS σ 12) 120
def secS (σ:Src):Src:=if pkV σ 12=0 then pkS (pkS σ 12) 4 else pkS (pkS σ 12) 120
theorem sec_t {σ:Src} (h:std.eqI (pkV σ 12) 0=true):secV σ=amV (pkS σ 12) [-1,0,36000,36001]∧secS σ=pkS (pkS σ 12) 4:=by
 have h1:pkV σ 12=0:=by simpa using h
 exact⟨if_pos h1,if_pos h1⟩
theorem sec_f {σ:Src} (h:std.eqI (pkV σ 12) 0=false):secV σ=pkV (pkS σ 12) 120∧secS σ=pkS (pkS σ 12) 120:=by
 have h1 : ¬pkV σ 12=0:=by simpa using h
 exact⟨if_neg h1,if_neg h1⟩
def sp_s_l18Seconds (p:Pr):MSpec:=msp (mS a0) (fun (σ,_u)=>SrOk 999999900000 σ) (fun (σ,_u)=>.i .i64 (secV σ)) (fun (σ,_u)=>srH (secS σ))
theorem ok_s_l18Seconds:MOk Tryz.prog 93 (sp_s_l18Seconds std):=by
 refine MOk.go (c:=cx std [] [(96,sp_s_xl00Src_one std),(64,sp_s_xl00Src_pick std),(66,sp_amongO std)] 1) (cx_ok .nil (.cons ok_s_xl00Src_one (.cons ok_s_xl00Src_pick (.cons ok_amongO .nil)))) mixed Tryz.func93 rfl rfl (by kernel_rfl) ?_
 rintro ⟨σ,_u⟩ hp
 dsimp only at hp
 refine⟨rfl,?_⟩
 unfold sp_s_xl00Src_one sp_s_xl00Src_pick sp_amongO
 generalize hP:std=p,hB0:pkS=B0,hB1:pkV=B1,hB2:amV=B2,hB3:secV=B3,hB4:secS=B4
 cbv
 repeat' first
  | (refine fun (_:Unit)=>?_;cbv)
  | (refine aI2 (fun h=>?_) (fun h=>?_)<;>cbv)
  | (refine aI2 ?_ ?_)
  | (refine Or.inl (fun (_:Unit)=>?_);cbv)
 all_goals subst hP hB0 hB1 hB2 hB3 hB4
 all_goals try exact fin
 all_goals (try simp only [eta_sr] at *)
 all_goals try exact Int.NonNeg.mk _
 all_goals first
  | exact hp.le (by decide)
  | exact (pk_ok hp 12).le (by decide)
  | exact (sec_t ‹_›).1.symm
  | (rw [(sec_t ‹_›).2];exact rfl)
  | (rw [(sec_f ‹_›).1])
  | (rw [(sec_f ‹_›).2])
  | skip
end Ax
namespace Ax
set_option maxRecDepth 100000
set_option maxHeartbeats 2000000
def sp_i_PlayTurn_y (p:Pr):FSpec:=fsp (ac (aA aGm) (ac (aA aPl) (a1 aI))) (fun (g,q,n)=>PtY g q n) (fun (g,q,n)=>.tup [.agg (gmK ⟨g.ts,g.lex,g.bd0,g.secs,g.rule,⟨(pCel g q).size,(pCel g q).prem,(pCel g q).cells⟩,pBag g q,pRks g q,pSs g q n,pClk g n,pPl g,0,⟨1,g.player,q,g.bd.cells,pDrw g q,pScore g q,g.zeros⟩,pOv g q⟩ (.osl 0) (.osl 1) (.osl 2) (.osl 3) (.osl 4) (.osl 5)),.i .i64 (pScore g q),.i .i64 0]) (fun (g,q,n)=>[(0,.own [.i .i64] g.ts.values 2),(1,.own [.i .i64] g.ts.counts 2),(2,.own [.s] g.lex 9),(3,.own [.s] (pRks g q) 9),(4,.own [.i .i64] (pSs g q n) 2),(5,.own [.i .i64] (pClk g n) 2)])
theorem ok_i_PlayTurn_y:FOk Tryz.prog 40 (sp_i_PlayTurn_y std):=by
 refine FOk.go (c:=cx std [(99,sp_i_actionCode std),(102,sp_i_Game_waits std),(112,sp_i_legal std),(113,sp_i_scorePlay std),(114,sp_i_copyGame std),(117,sp_i_placedTiles std),(116,sp_i_without std),(118,sp_i_toDraw std),(119,sp_i_made std),(120,sp_i_FillRack std)] [(115,sp_i_xGame_begin std),(101,sp_i_xGame_settle std)] 0) (cx_ok (.cons ok_i_actionCode (.cons ok_i_Game_waits (.cons ok_i_legal (.cons ok_i_scorePlay (.cons ok_i_copyGame (.cons ok_i_placedTiles (.cons ok_i_without (.cons ok_i_toDraw (.cons ok_i_made (.cons ok_i_FillRack .nil)))))))))) (.cons ok_i_xGame_begin (.cons ok_i_xGame_settle .nil))) mixed Tryz.func40 rfl rfl rfl (by kernel_rfl) ?_
 rintro ⟨g,q,n⟩ hp
 dsimp only at hp
 refine⟨rfl,?_⟩
 unfold sp_i_actionCode sp_i_Game_waits sp_i_legal sp_i_scorePlay sp_i_copyGame sp_i_xGame_begin sp_i_placedTiles sp_i_without sp_i_toDraw sp_i_made sp_i_FillRack sp_i_xGame_settle
 generalize hP:std=p,hB0:actC=B0,hB1:waitsB=B1,hB2:codeI=B2,hB3:scoreI=B3,hB4:madeB=B4,hB5:withoutS=B5,hB6:withoutB=B6,hB7:tilesP=B7,hB8:placedI=B8,hB9:tdI=B9,hB10:frR=B10,hB11:frB=B11,hB12:frC=B12,hB13:setS=B13,hB14:ovB=B14,hB15:pScore=B15,hB16:pRks=B16,hB17:pSs=B17,hB18:pClk=B18,hB19:pBag=B19,hB20:pDrw=B20,hB21:pCel=B21,hB22:pOv=B22,hB23:pPl=B23
 cbv
 repeat' first
  | (refine fun (_:Unit)=>?_;cbv)
  | (refine aI2 (fun h=>?_) (fun h=>?_)<;>cbv)
  | (refine aI2 ?_ ?_)
  | (refine Or.inl (fun (_:Unit)=>?_);cbv)
 all_goals subst hP hB0 hB1 hB2 hB3 hB4 hB5 hB6 hB7 hB8 hB9 hB10 hB11 hB12 hB13 hB14 hB15 hB16 hB17 hB18 hB19 hB20 hB21 hB22 hB23
 all_goals try exact fin
 all_goals try (exfalso;exact pe1 hp.c ‹_›)
 all_goals try (exfalso;exact pe2 hp.c ‹_› ‹_›)
 all_goals try (exfalso;exact pe3 hp.c ‹_› ‹_› ‹_› (Or.inl ‹_›))
 all_goals try (exfalso;exact pe3 hp.c ‹_› ‹_› ‹_› (Or.inr ‹_›))
 all_goals try (exfalso;exact pe4 hp.c ‹_› ‹_› (Or.inl ‹_›))
 all_goals try (exfalso;exact pe4 hp.c ‹_› ‹_› (Or.inr ‹_›))
 all_goals try (have hG:=pyg (show std.eqI (actC g n) 0=true by assumption);have hpl:=in_bd hG.fa.ply;have hr2:=hG.fa.r;have hs2:=hG.fa.s;have hk2:=hG.fa.k;have hck:=hG.ok.clk g.player;have hsc:=hG.ok.sc g.player;have hn:=hG.n;have hts:=tsB_ok hG.ok.ts;have hbl:=bag_len hG.ok.bag)
 all_goals try (have hC:=pyc (q:=q) hG (Or.inl ‹_›);have hsb:=sco_bd hts hC.vp;have htd:=td_bd (a:=g.bag) hC.rk;have hrl:=rack_len hC.rk)
 all_goals try (have hC:=pyc (q:=q) hG (Or.inr ‹_›);have hsb:=sco_bd hts hC.vp;have htd:=td_bd (a:=g.bag) hC.rk;have hrl:=rack_len hC.rk)
 all_goals first
  | exact hp.b.gm
  | exact⟨hr2,hG.fa.ply⟩
  | exact⟨hpl.1,by show g.player<(g.racks.length:Int);omega⟩
  | exact⟨hpl.1,by show g.player<(g.scores.length:Int);omega⟩
  | exact⟨hpl.1,by show g.player<(g.clocks.length:Int);omega⟩
  | exact⟨hG.ok.bd,lex_lxp hG.ok.lex,rack_stp (hG.ok.rk _),hp.b.wl⟩
  | exact⟨hts,hC.vp⟩
  | exact hC.vp
  | exact rack_stp (hG.ok.rk _)
  | exact tp_stp hC.vp
  | exact⟨⟨⟨hp.b.cp.v,hp.b.cp.c⟩,hp.b.cp.l⟩,hp.b.cp.r,hp.b.cp.s,hp.b.cp.k⟩
  | exact in64 (by show _≤g.clk g.player-n∧g.clk g.player-n≤_;omega)
  | exact in64 (by show _≤1-g.player∧1-g.player≤_;omega)
  | exact in64 (by show _≤g.sc g.player+scoreI g.ts g.bd q∧g.sc g.player+scoreI g.ts g.bd q≤_;omega)
  | exact⟨by omega,by show (restT g q).length ≤_;omega⟩
  | exact (⟨by show g.bag.length≤_;omega,by show (restT g q).length ≤_;omega⟩:TdP g.bag (restT g q))
  | exact⟨hpl.1,by show g.player<((g.racks.set g.player.toNat (pRack g q)).length : Int);rw [List.length_set];omega⟩
  | exact set_q (g:=g) (q:=q) (n:=n) hp.c _
  | exact congrArg (fun L=>Ob.own [.i .i64] L 2) (ss_no (g:=g) (q:=q) (n:=n) ‹_›)
  | exact congrArg (fun L=>Ob.own [.i .i64] L 2) (ss_yes (g:=g) (q:=q) (n:=n) hG ‹_›)
  | exact ov_no (g:=g) (q:=q) (n:=n) ‹_›
  | exact ov_yes (g:=g) (q:=q) (n:=n) hG ‹_›
  | exact htd.1
  | exact htd.2.1
  | skip
end Ax
end Go.Proofs.YtjjonmhpgkahoaaGreatDoor
