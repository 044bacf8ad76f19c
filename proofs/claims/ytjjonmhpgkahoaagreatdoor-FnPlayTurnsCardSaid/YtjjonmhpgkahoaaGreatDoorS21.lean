/-
  The draws' lexicon, words from a pile: walked; The text of the small tile set: walked (its words one by one, at their own letters); Standard boards: walked; The words of a play, whether it touches, its code: both packages' are the same; Exits of a turn with a play, of the spec package; What a turn with a play rests on: facts of a game in which an action may be done; Challenges: what is decided about a play, what follows; Challenges: facts of a game whose last play can be challenged; Turns without points: what a pass and an exchange make of a game.
  Conditions: none.
-/
import Derived.Test.YtjjonmhpgkahoaaGreatDoorS12
import Derived.Test.YtjjonmhpgkahoaaGreatDoorS20
import Derived.Test.YtjjonmhpgkahoaaGreatDoorS15
import Derived.Test.YtjjonmhpgkahoaaGreatDoorS19
set_option linter.unusedSimpArgs false
set_option linter.unusedVariables false
namespace Go.Proofs.YtjjonmhpgkahoaaGreatDoor
namespace Ax
set_option maxRecDepth 100000
set_option maxHeartbeats 2000000
structure DfP (ws:List (List UInt8)) (q:List UInt8):Prop where
 w:WsP ws
 n:(q.length:Int)≤1048576
 lx:lexB ws=true
 pl:pileB q=true
section
variable {ws l:List (List UInt8)} {q t:List UInt8} {k:Int}
theorem df1 (h:DfP ws q) (h2:lexB ws=false):False:=by rw [h.lx] at h2;cases h2
theorem df2 (h:DfP ws q) (h2:pileB q=false):False:=by rw [h.pl] at h2;cases h2
theorem from_step (h0:0≤k) (h:k<ws.length):(ws.take (k+1).toNat).filter (mkB q)=(ws.take k.toNat).filter (mkB q)++if mkB q (ws.getD k.toNat []) then [ws.getD k.toNat []] else []:=by
 rw [tk h0 h [],List.filter_append]
 congr 1
 rw [List.filter_cons]
 split<;>rfl
theorem from_le2:((ws.take k.toNat).filter (mkB q)).length ≤k.toNat:=Nat.le_trans (List.length_filter_le _ _) (by rw [List.length_take];omega)
theorem cut_go (h0:0<k) (h:Op.bytesLess t (l.getD (k-1).toNat [])=true):cutW l t k.toNat=cutW l t (k-1).toNat :=by
 obtain⟨n,rfl⟩ : ∃n:Nat,k=(n:Int)+1:=⟨(k-1).toNat,by omega⟩
 rw [show ((n:Int)+1-1).toNat =n by omega] at h ⊢
 rw [show ((n:Int)+1).toNat =n+1 by omega,cutW,if_pos h]
theorem cut_st (h0:0<k) (h:Op.bytesLess t (l.getD (k-1).toNat [])=false):cutW l t k.toNat=k.toNat:=by
 obtain⟨n,rfl⟩ : ∃n:Nat,k=(n:Int)+1:=⟨(k-1).toNat,by omega⟩
 rw [show ((n:Int)+1-1).toNat =n by omega] at h
 rw [show ((n:Int)+1).toNat =n+1 by omega,cutW,if_neg (by rw [h];decide)]
theorem ins_n (e:cutW l t l.length=k.toNat) (h:0<k→¬l.getD (k-1).toNat []=t):l.take k.toNat++[t]++l.drop k.toNat=insW l t:=by
 unfold insW
 rw [e,if_neg]
 rintro ⟨h1,h2⟩
 rw [show k.toNat-1=(k-1).toNat by omega] at h2
 exact h (by omega) h2
end
def sp_s_WordsFrom (p:Pr):FSpec:=fsp (ac (aA aLex) (a1 aS)) (fun (ws,q)=>DfP ws q) (fun (ws,q)=>.tup [.osl 0,.i .i64 0]) (fun (ws,q)=>[(0,.own [.s] (fromW ws q) 9)])
theorem ok_s_WordsFrom:FOk Tryz.prog 199 (sp_s_WordsFrom std):=by
 refine FOk.go (c:=cx std [(172,sp_s_l05Ok std),(106,sp_s_l03Pile std),(255,sp_s_l03Can std)] [] 0) (cx_ok (.cons ok_s_l05Ok (.cons ok_s_l03Pile (.cons ok_s_l03Can .nil))) .nil) mixed Tryz.func199 rfl rfl rfl (by kernel_rfl) ?_
 rintro ⟨ws,q⟩ hp
 dsimp only at hp
 refine⟨rfl,?_⟩
 unfold sp_s_l05Ok sp_s_l03Pile sp_s_l03Can
 obtain⟨H,hH⟩ : ∃H:Hd (Int×List (List UInt8)),H=⟨fun (k,L)=>0≤k∧k≤ws.length∧L=(ws.take k.toNat).filter (mkB q),fun (k,L)=>(ws.length-k).toNat,(· < ·)⟩:=⟨_,rfl⟩
 have hl : ∀m n,H.lt m n→m<n:=by subst hH;exact fun _ _ h=>h
 generalize hP:std=p,hB0:fromW=B0,hB1:lexB=B1,hB2:pileB=B2,hB3:mkB=B3
 cbv
 repeat' first
  | (refine fun (_:Unit)=>?_;cbv)
  | (refine Or.inr ⟨14,[],[.s 7 (.i .i64),.o 1 [.s]],[.s 6],[],H,rfl,hl,?_,fun ((k,L):Int×List (List UInt8)) hk=>?_⟩<;>cbv)
  | (refine aI2 (fun h=>?_) (fun h=>?_)<;>cbv)
  | (refine aI2 ?_ ?_)
 all_goals subst hP hB0 hB1 hB2 hB3 hH
 all_goals clear hl
 all_goals try dsimp only at hk
 all_goals try dsimp only
 all_goals try (exfalso;exact df1 hp ‹_›)
 all_goals try (exfalso;exact df2 hp ‹_›)
 all_goals try exact fin
 all_goals have hw:=hp.w
 all_goals have hn:=hw.len
 all_goals have hq:(q.length:Int)≤274877906944:=(by have:=hp.n;omega)
 ·exact hq
 all_goals obtain⟨q0,q1,q2⟩:=hk
 ·exact hq
 all_goals try (have hlt:k<(ws.length:Int):=lt_of ‹_›)
 ·show ((ws.getD k.toNat []).length : Int)≤274877906944
  have:=hw.all k.toNat;omega
 ·have h1:L.length≤k.toNat:=by rw [q2];exact from_le2
  show (L.length:Int)+1≤274877906944
  omega
 ·exact in64 (by show _≤k+1∧k+1≤_;omega)
 ·refine⟨by show 0≤k+1;omega,by show k+1≤(ws.length:Int);omega,?_⟩
  show L++[ws.getD k.toNat []]=(ws.take (k+1).toNat).filter (mkB q)
  rw [from_step q0 hlt,if_pos (show mkB q (ws.getD k.toNat [])=true from h),q2]
 ·exact in64 (by show _≤k+1∧k+1≤_;omega)
 ·refine⟨by show 0≤k+1;omega,by show k+1≤(ws.length:Int);omega,?_⟩
  show L=(ws.take (k+1).toNat).filter (mkB q)
  rw [from_step q0 hlt,if_neg (by rw [show mkB q (ws.getD k.toNat [])=false from h];decide),q2,List.append_nil]
 ·refine congrArg (fun z=>Ob.own [.s] z 9) ?_
  rw [q2,tk_all (ge_of ‹_›)];rfl
def newB (l:List (List UInt8)) (t:List UInt8):Bool:=!(decide (0<cutW l t l.length)&&(l.getD (cutW l t l.length-1) []==t))
structure InP (l:List (List UInt8)) (t:List UInt8):Prop where
 w:WsP l
 m:l.length≤1000
 n:(t.length:Int)≤274877906944
 f:newB l t=true
theorem in1 {l:List (List UInt8)} {t:List UInt8} {k:Int} (hp:InP l t) (q2:cutW l t l.length=cutW l t k.toNat) (h0:std.ltI 0 k=true) (hs:Op.bytesLess t (l.getD (k-1).toNat [])=false) (h:std.eqS (l.getD (k-1).toNat []) t=true):False:=by
 have h0:0<k:=lt_of h0
 have hc:=q2.trans (cut_st h0 hs)
 have h1:=hp.f
 unfold newB at h1
 rw [hc,show k.toNat-1=(k-1).toNat by omega,decide_eq_true (by omega),show (l.getD (k-1).toNat []==t)=true from h] at h1
 cases h1
theorem ltM_z (l:List (List UInt8)) (h:(l.length:Int)≤274877906944):std.ltM (std.add (std.len ([]:List (List UInt8))) (std.len l)):=by
 have e:std.add (std.len ([]:List (List UInt8))) (std.len l)=(l.length:Int):=by show ((0:Nat):Int)+(l.length:Int)=_;omega
 rw [e];exact h
theorem ltM_o (l:List (List UInt8)) (t:List UInt8) (h:l.length≤1000):std.ltM (std.add (std.len (std.snoc [] l)) (std.len [t])):=by
 have e:std.add (std.len (std.snoc [] l)) (std.len [t])=(l.length:Int)+1:=rfl
 rw [e]
 show (l.length:Int)+1≤274877906944
 omega
def sp_s_l03Insert (p:Pr):FSpec:=fsp (ac aW (a1 aS)) (fun (l,t)=>InP l t) (fun (l,t)=>.osl 0) (fun (l,t)=>[(0,.own [.s] (insW l t) 9)])
theorem ok_s_l03Insert:FOk Tryz.prog 287 (sp_s_l03Insert std):=by
 refine FOk.go (c:=cx std [] [] 0) (cx_ok .nil .nil) mixed Tryz.func287 rfl rfl rfl (by kernel_rfl) ?_
 rintro ⟨l,t⟩ hp
 dsimp only at hp
 refine⟨rfl,?_⟩
 obtain⟨H,hH⟩ : ∃H:Hd (Int),H=⟨fun k=>0≤k∧k≤l.length∧cutW l t l.length=cutW l t k.toNat,fun k=>k.toNat,(· < ·)⟩:=⟨_,rfl⟩
 have hl : ∀m n,H.lt m n→m<n:=by subst hH;exact fun _ _ h=>h
 generalize hP:std=p,hB0:insW=B0,hB1:cutW=B1
 cbv
 repeat' first
  | (refine fun (_:Unit)=>?_;cbv)
  | (refine Or.inr ⟨9,[],[.s 5 (.i .i64)],[],[],H,rfl,hl,?_,fun (k:Int) hk=>?_⟩<;>cbv)
  | (refine aI2 (fun h=>?_) (fun h=>?_)<;>cbv)
  | (refine aI2 ?_ ?_)
 all_goals subst hP hB0 hB1 hH
 all_goals clear hl
 all_goals try dsimp only at hk
 all_goals try dsimp only
 all_goals try (exfalso;exact in1 hp hk.2.2 ‹_› ‹_› ‹_›)
 all_goals try exact fin
 all_goals have hn:=hp.m
 all_goals obtain⟨q0,q1,q2⟩:=hk
 all_goals have q1:k≤(l.length:Int):=q1
 all_goals have hm:std.inK .i64 (k-1):=in64 (by omega)
 ·exact hm
 ·exact hm
 all_goals have ht:((l.take k.toNat).length : Int)≤274877906944:=(by rw [List.length_take];omega)
 ·have h0:0<k:=lt_of ‹_›
  refine⟨by show 0≤k-1;omega,by show k-1≤(l.length:Int);omega,?_⟩
  show _=cutW l t (k-1).toNat
  rw [q2,cut_go h0 h]
 ·exact hm
 all_goals try (have h0:0<k:=lt_of ‹_›)
 all_goals try (have hs:Op.bytesLess t (l.getD (k-1).toNat [])=false:=‹_›)
 all_goals try (have hc:=q2.trans (cut_st h0 hs))
 all_goals try (have h0 : ¬0<k:=(by have h3:k≤0:=ge_of ‹_›;omega))
 all_goals try (have hc:cutW l t l.length=k.toNat:=(by rw [q2,show k.toNat=0 by omega];rfl))
 ·exact ltM_z (l.take k.toNat) ht
 ·exact ltM_o (l.take k.toNat) t (by rw [List.length_take];omega)
 ·show ((([]++l.take k.toNat)++[t]).length : Int)+((l.drop k.toNat).length : Int)≤274877906944
  rw [List.nil_append,List.length_append,List.length_take,List.length_drop,List.length_singleton];omega
 ·exact congrArg (fun z=>Ob.own [.s] z 9) (ins_n hc fun _ e=>beq_eq_false_iff_ne.1 h e)
 ·show ((([]++l.take k.toNat)++[t]).length : Int)+((l.drop k.toNat).length : Int)≤274877906944
  rw [List.nil_append,List.length_append,List.length_take,List.length_drop,List.length_singleton];omega
 ·exact congrArg (fun z=>Ob.own [.s] z 9) (ins_n hc fun h3=>absurd h3 h0)
def sp_s_l05Some (p:Pr):FSpec:=fsp a0 (fun _=>True) (fun _=>.osl 0) (fun _=>[(0,.own [.s] someW 9)])
theorem ok_s_l05Some:FOk Tryz.prog 234 (sp_s_l05Some std):=by
 refine FOk.go (c:=cx std [] [] 0) (cx_ok .nil .nil) mixed Tryz.func234 rfl rfl rfl (by kernel_rfl) ?_
 rintro _ hp
 refine⟨rfl,?_⟩
 generalize hP:std=p
 cbv
 repeat' first
  | (refine fun (_:Unit)=>?_;cbv)
  | (refine aI2 (fun h=>?_) (fun h=>?_)<;>cbv)
  | (refine aI2 ?_ ?_)
  | (refine Or.inl (fun (_:Unit)=>?_);cbv)
 all_goals subst hP
 all_goals try exact fin
theorem make_step {l:List (List UInt8)} {k:Int} (h0:0≤k) (h:k<l.length):makeW (l.take (k+1).toNat)=insW (makeW (l.take k.toNat)) (l.getD k.toNat []):=by
 unfold makeW
 rw [tk h0 h [],List.foldl_append];rfl
theorem ins_len (l:List (List UInt8)) (t:List UInt8):(insW l t).length ≤l.length+1:=by
 unfold insW
 split
 ·omega
 ·rw [List.length_append,List.length_append,List.length_take,List.length_drop,List.length_singleton];omega
theorem ins_mem {l:List (List UInt8)} {t x:List UInt8} (h:x∈insW l t):x∈l∨x=t:=by
 unfold insW at h
 split at h
 ·exact .inl h
 ·rcases List.mem_append.1 h with h | h
  ·rcases List.mem_append.1 h with h | h
   ·exact .inl (List.mem_of_mem_take h)
   ·exact .inr (List.mem_singleton.1 h)
  ·exact .inl (List.mem_of_mem_drop h)
theorem fold_len : ∀(m l:List (List UInt8)),(m.foldl insW l).length ≤l.length+m.length
 | [],l=>Nat.le_refl _
 | t::m,l=>by
   have h1:=fold_len m (insW l t)
   have h2:=ins_len l t
   rw [List.foldl_cons,List.length_cons];omega
theorem fold_mem : ∀(m l:List (List UInt8)) (x:List UInt8),x∈m.foldl insW l→x∈l∨x∈m
 | [],l,x,h=>.inl h
 | t::m,l,x,h=>by
   rcases fold_mem m (insW l t) x h with h | h
   ·rcases ins_mem h with h | h
    ·exact .inl h
    ·exact .inr (h ▸ List.mem_cons_self ..)
   ·exact .inr (List.mem_cons_of_mem _ h)
theorem make_wsp {l:List (List UInt8)} (h:WsP l) (n:Nat):WsP (makeW (l.take n)):=by
 refine⟨?_,fun k=>?_⟩
 ·have h1:=fold_len (l.take n) []
  have h2:=h.len
  rw [List.length_take] at h1
  unfold makeW
  have h3:([]:List (List UInt8)).length =0:=rfl
  omega
 ·rw [List.getD_eq_getElem?_getD]
  cases hk:(makeW (l.take n))[k]? with
  | none=>exact Nat.zero_le _
  | some x=>
    rcases fold_mem _ _ _ (List.mem_of_getElem? hk) with h1 | h1
    ·cases h1
    ·have h2:=List.mem_of_mem_take h1
     obtain⟨j,hj⟩:=List.getElem?_of_mem h2
     have:=h.all j
     rw [List.getD_eq_getElem?_getD,hj] at this
     exact this
theorem make_len (l:List (List UInt8)) (n:Nat):(makeW (l.take n)).length ≤l.length:=by
 have h1:=fold_len (l.take n) []
 rw [List.length_take] at h1
 have h3:([]:List (List UInt8)).length =0:=rfl
 unfold makeW
 omega
structure MkP (l:List (List UInt8)):Prop where
 w:WsP l
 m:l.length≤1000
 f : ∀k:Int,0≤k→k<l.length→newB (makeW (l.take k.toNat)) (l.getD k.toNat [])=true
def sp_s_l05Make (p:Pr):FSpec:=fsp (a1 aW) (fun l=>MkP l) (fun l=>.osl 0) (fun l=>[(0,.own [.s] (makeW l) 9)])
theorem ok_s_l05Make:FOk Tryz.prog 233 (sp_s_l05Make std):=by
 refine FOk.go (c:=cx std [(287,sp_s_l03Insert std)] [] 0) (cx_ok (.cons ok_s_l03Insert .nil) .nil) mixed Tryz.func233 rfl rfl rfl (by kernel_rfl) ?_
 rintro l hp
 refine⟨rfl,?_⟩
 unfold sp_s_l03Insert
 obtain⟨H,hH⟩ : ∃H:Hd (Int×List (List UInt8)),H=⟨fun (k,L)=>0≤k∧k≤l.length∧L=makeW (l.take k.toNat),fun (k,L)=>(l.length-k).toNat,(· < ·)⟩:=⟨_,rfl⟩
 have hl : ∀m n,H.lt m n→m<n:=by subst hH;exact fun _ _ h=>h
 generalize hP:std=p,hB0:makeW=B0,hB1:insW=B1,hB2:newB=B2
 cbv
 repeat' first
  | (refine fun (_:Unit)=>?_;cbv)
  | (refine Or.inr ⟨6,[],[.s 4 (.i .i64),.o 0 [.s]],[.s 3],[],H,rfl,hl,?_,fun ((k,L):Int×List (List UInt8)) hk=>?_⟩<;>cbv)
  | (refine aI2 (fun h=>?_) (fun h=>?_)<;>cbv)
  | (refine aI2 ?_ ?_)
 all_goals subst hP hB0 hB1 hB2 hH
 all_goals clear hl
 all_goals try dsimp only at hk
 all_goals try dsimp only
 all_goals try exact fin
 ·exact⟨Int.le_refl 0,Int.natCast_nonneg _,rfl⟩
 all_goals obtain⟨q0,q1,q2⟩:=hk
 all_goals have q1:k≤(l.length:Int):=q1
 all_goals have hn:=hp.w.len
 all_goals try (have hlt:k<(l.length:Int):=lt_of ‹_›)
 ·refine⟨by rw [q2];exact make_wsp hp.w _,by rw [q2];exact Nat.le_trans (make_len _ _) hp.m,?_,by rw [q2];exact hp.f k q0 hlt⟩
  have:=hp.w.all k.toNat
  show ((l.getD k.toNat []).length : Int)≤_;omega
 ·exact in64 (by show _≤k+1∧k+1≤_;omega)
 ·refine⟨by show 0≤k+1;omega,by show k+1≤(l.length:Int);omega,?_⟩
  show insW L (l.getD k.toNat [])=makeW (l.take (k+1).toNat)
  rw [make_step q0 hlt,q2]
 ·refine congrArg (fun z=>Ob.own [.s] z 9) ?_
  rw [q2,tk_all (ge_of h)]
theorem some_new:(List.range 60).all (fun k=>newB (makeW (someW.take k)) (someW.getD k []))=true:=by decide +kernel
theorem some_w:someW.all (fun x=>decide (x.length≤12))=true:=by decide +kernel
theorem some_n:someW.length=60:=by decide +kernel
theorem some_mk:MkP someW:=by
 refine⟨⟨by rw [some_n];decide,fun k=>?_⟩,by rw [some_n];decide,fun k h0 h=>?_⟩
 ·rw [List.getD_eq_getElem?_getD]
  cases hk:someW[k]? with
  | none=>exact Nat.zero_le _
  | some x=>
    have h2:x.length≤12:=of_decide_eq_true (List.all_eq_true.1 some_w x (List.mem_of_getElem? hk))
    exact Nat.le_trans h2 (by decide)
 ·rw [some_n] at h
  exact List.all_eq_true.1 some_new k.toNat (List.mem_range.2 (by omega))
def sp_s_l12All (p:Pr):FSpec:=fsp a0 (fun _=>True) (fun _=>.agg [.osl 0]) (fun _=>[(0,.own [.s] allW 9)])
theorem ok_s_l12All:FOk Tryz.prog 155 (sp_s_l12All std):=by
 refine FOk.go (c:=cx std [(234,sp_s_l05Some std),(233,sp_s_l05Make std)] [] 0) (cx_ok (.cons ok_s_l05Some (.cons ok_s_l05Make .nil)) .nil) mixed Tryz.func155 rfl rfl rfl (by kernel_rfl) ?_
 rintro _ hp
 refine⟨rfl,?_⟩
 unfold sp_s_l05Some sp_s_l05Make
 generalize hP:std=p,hB0:allW=B0,hB1:someW=B1,hB2:makeW=B2
 cbv
 repeat' first
  | (refine fun (_:Unit)=>?_;cbv)
  | (refine aI2 (fun h=>?_) (fun h=>?_)<;>cbv)
  | (refine aI2 ?_ ?_)
  | (refine Or.inl (fun (_:Unit)=>?_);cbv)
 all_goals subst hP hB0 hB1 hB2
 all_goals try exact fin
 ·exact some_mk
end Ax
namespace Ax
set_option maxRecDepth 100000
set_option maxHeartbeats 2000000
def sp_s_l01Dec (p:Pr):FSpec:=fsp (a1 aI) (fun n=>n=1∨n=2∨n=3) (fun n=>.s (decS n))
theorem ok_s_l01Dec:FOk Tryz.prog 149 (sp_s_l01Dec std):=by
 refine FOk.go (c:=cx std [] [] 0) (cx_ok .nil .nil) mixed Tryz.func149 rfl rfl rfl (by kernel_rfl) ?_
 rintro n hp
 rcases hp with rfl | rfl | rfl
 all_goals
  refine⟨rfl,?_⟩
  cbv
  repeat' first
   | (refine fun (_:Unit)=>?_;cbv)
   | (refine aI2 (fun h=>?_) (fun h=>?_)<;>first | exact absurd h (by decide) | cbv)
   | (refine aI2 ?_ ?_)
   | (refine Or.inl (fun (_:Unit)=>?_);cbv)
 all_goals try exact Int.NonNeg.mk _
 all_goals try exact fin
def digC (n:Int):Bool:=decide (48≤n)&&decide (n≤57)
def sp_s_l01Digit (p:Pr):FSpec:=fsp (a1 aC) (fun n=>True) (fun n=>.b (digC n))
theorem ok_s_l01Digit:FOk Tryz.prog 330 (sp_s_l01Digit std):=by
 refine FOk.go (c:=cx std [] [] 0) (cx_ok .nil .nil) mixed Tryz.func330 rfl rfl rfl (by kernel_rfl) ?_
 rintro n hp
 refine⟨rfl,?_⟩
 generalize hP:std=p,hB0:digC=B0
 cbv
 repeat' first
  | (refine fun (_:Unit)=>?_;cbv)
  | (refine aI2 (fun h=>?_) (fun h=>?_)<;>cbv)
  | (refine aI2 ?_ ?_)
  | (refine Or.inl (fun (_:Unit)=>?_);cbv)
 all_goals subst hP hB0
 all_goals try exact fin
 ·have h1:decide (48≤n)=true:=h
  unfold digC
  rw [h1,Bool.true_and];rfl
 ·have h1:decide (48≤n)=false:=h
  unfold digC
  rw [h1,Bool.false_and]
def sp_s_l01Number (p:Pr):FSpec:=fsp (a1 aS) (fun s=>s=[49]∨s=[50]∨s=[51]) (fun s=>.tup [.i .i64 (numV s),.bt])
theorem ok_s_l01Number:FOk Tryz.prog 314 (sp_s_l01Number std):=by
 refine FOk.go (c:=cx std [(330,sp_s_l01Digit std),(149,sp_s_l01Dec std)] [] 0) (cx_ok (.cons ok_s_l01Digit (.cons ok_s_l01Dec .nil)) .nil) mixed Tryz.func314 rfl rfl rfl (by kernel_rfl) ?_
 rintro s hp
 rcases hp with rfl | rfl | rfl
 all_goals
  refine⟨rfl,?_⟩
  unfold sp_s_l01Digit sp_s_l01Dec
  cbv
  repeat' first
   | (refine fun (_:Unit)=>?_;cbv)
   | (refine aI2 (fun h=>?_) (fun h=>?_)<;>first | exact absurd h (by decide) | cbv)
   | (refine aI2 ?_ ?_)
   | (refine Or.inl (fun (_:Unit)=>?_);cbv)
 all_goals try exact Int.NonNeg.mk _
 all_goals try exact fin
section
variable {s:List UInt8} {c:UInt8} {f k:Int} {L:List (List UInt8)}
theorem spl_y (h0:0≤k) (h:k<s.length) (hc:s.getD k.toNat 0=c) (e:splitS c s=L++splitA c ((s.take k.toNat).drop f.toNat) (s.drop k.toNat)):splitS c s=(L++[(s.take k.toNat).drop f.toNat])++splitA c ((s.take (k+1).toNat).drop (k+1).toNat) (s.drop (k+1).toNat):=by
 rw [e,dc h0 h 0,splitA,if_pos hc,List.append_assoc,List.drop_of_length_le (l:=s.take (k+1).toNat) (by rw [List.length_take];omega)];rfl
theorem spl_n (h0:0≤k) (h:k<s.length) (hf:f≤k) (hf0:0≤f) (hc : ¬s.getD k.toNat 0=c) (e:splitS c s=L++splitA c ((s.take k.toNat).drop f.toNat) (s.drop k.toNat)):splitS c s=L++splitA c ((s.take (k+1).toNat).drop f.toNat) (s.drop (k+1).toNat):=by
 rw [e,dc h0 h 0,splitA,if_neg hc,tk h0 h 0,List.drop_append_of_le_length (by rw [List.length_take];omega)]
theorem spl_e (h:(s.length:Int)≤k) (e:splitS c s=L++splitA c ((s.take k.toNat).drop f.toNat) (s.drop k.toNat)):L++[s.drop f.toNat]=splitS c s:=by
 rw [e,dn h,tk_all h];rfl
end
def sp_s_l01Split (p:Pr):FSpec:=fsp (ac aS (a1 aC)) (fun (s,c)=>p.leP (p.lenS s) 1048576∧p.inK .u8 c) (fun (s,c)=>.osl 0) (fun (s,c)=>[(0,.own [.s] (splitS (u8 c) s) 9)])
theorem ok_s_l01Split:FOk Tryz.prog 283 (sp_s_l01Split std):=by
 refine FOk.go (c:=cx std [] [] 0) (cx_ok .nil .nil) mixed Tryz.func283 rfl rfl rfl (by kernel_rfl) ?_
 rintro ⟨s,c⟩ hp
 dsimp only at hp
 refine⟨rfl,?_⟩
 obtain⟨H,hH⟩ : ∃H:Hd (Int×Int×List (List UInt8)),H=⟨fun (f,k,L)=>0≤f∧f≤k∧k≤s.length∧L.length≤k∧splitS (u8 c) s=L++splitA (u8 c) ((s.take k.toNat).drop f.toNat) (s.drop k.toNat),fun (f,k,L)=>(s.length-k).toNat,(· < ·)⟩:=⟨_,rfl⟩
 have hl : ∀m n,H.lt m n→m<n:=by subst hH;exact fun _ _ h=>h
 generalize hP:std=p,hB0:splitS=B0,hB1:u8=B1
 cbv
 repeat' first
  | (refine fun (_:Unit)=>?_;cbv)
  | (refine Or.inr ⟨9,[],[.s 6 (.i .i64),.s 7 (.i .i64),.o 0 [.s]],[.s 5],[],H,rfl,hl,?_,fun ((f,k,L):Int×Int×List (List UInt8)) hk=>?_⟩<;>cbv)
  | (refine aI2 (fun h=>?_) (fun h=>?_)<;>cbv)
  | (refine aI2 ?_ ?_)
 all_goals subst hP hB0 hB1 hH
 all_goals clear hl
 all_goals try dsimp only at hk
 all_goals try dsimp only
 all_goals try exact fin
 ·exact⟨Int.le_refl 0,Int.le_refl 0,Int.natCast_nonneg _,Int.le_refl 0,rfl⟩
 all_goals obtain⟨q0,q1,q2,q3,q4⟩:=hk
 all_goals have hn:0≤c∧c≤255:=hp.2
 all_goals have hu:u8 c=UInt8.ofNat c.toNat:=rfl
 all_goals have h0:0≤k:=Int.le_trans q0 q1
 all_goals try (have hlt:k<(s.length:Int):=lt_of ‹_›)
 ·refine⟨by show 0≤k+1;omega,Int.le_refl _,by show k+1≤(s.length:Int);omega,?_,spl_y h0 hlt (by rw [hu];exact byte_t h hn) q4⟩
  have h3:(L.length:Int)≤k:=q3
  show ((L++[_]).length : Int)≤k+1
  rw [List.length_append,List.length_singleton];omega
 ·exact⟨q0,by show f≤k+1;omega,by show k+1≤(s.length:Int);omega,by have h3:(L.length:Int)≤k:=q3;show (L.length:Int)≤k+1;omega,spl_n h0 hlt q1 q0 (by rw [hu];exact byte_f h hn) q4⟩
 ·exact congrArg (fun z=>Ob.own [.s] z 9) (spl_e (ge_of h) q4)
def mT0:MArgs (List UInt8):=⟨fun H l=>match H,l with
 | [(0,.cells [.s [],.esl,.esl,.i .i64 0] t)],[.ptr 0 0,.s w]=>if t=26 then some w else none
 | _,_=>none,fun _=>[(0,.cells [.s [],.esl,.esl,.i .i64 0] 26)],fun w=>[.ptr 0 0,.s w],fun H l a h=>by
   split at h
   ·split at h
    ·rename_i ht
     cases h
     rw [ht]
     exact⟨rfl,rfl⟩
    ·cases h
   ·cases h⟩
def hT:Nat×Ob→Option (List UInt8×Int)
 | (0,.cells [.s a,.osl 1,.osl 2,.i .i64 d] t)=>if t=26 then some (a,d) else none
 | _=>none
theorem hT_ok {x:Nat×Ob} {a:List UInt8} {d:Int} (h:hT x=some (a,d)):x=(0,.cells [.s a,.osl 1,.osl 2,.i .i64 d] 26):=by
 unfold hT at h
 split at h
 ·split at h
  ·rename_i ht
   cases h
   rw [ht]
  ·cases h
 ·cases h
def mTw (b:List UInt8→Bool):MArgs (TS×List UInt8):=⟨fun H l=>match H,l with
 | [x0,x1,x2],[.ptr 0 0,.s w]=>match hT x0,hN x1,hN x2 with
   | some (a,d),some (1,v),some (2,c)=>if b w then some (⟨a,v,c,d⟩,w) else none
   | _,_,_=>none
 | _,_=>none,fun a=>[(0,.cells (tsK a.1 (.osl 1) (.osl 2)) 26),(1,.own [.i .i64] a.1.values 2),(2,.own [.i .i64] a.1.counts 2)],fun a=>[.ptr 0 0,.s a.2],fun H l a h=>by
   split at h
   ·split at h
    ·rename_i h0 h1 h2
     split at h
     ·cases h
      exact⟨by rw [hT_ok h0,hN_ok h1,hN_ok h2];rfl,rfl⟩
     ·cases h
    ·cases h
   ·cases h⟩
def blkW (w:List UInt8):Bool:=match w with
 | 63::_=>true
 | _=>false
def sp_l02Word_0 (p:Pr):MSpec:=msp mT0 (fun w=>w=[97,49,120,51]) (fun w=>.b true) (fun w=>[(0,.cells (tsK ⟨[97],[1],[3],0⟩ (.osl 1) (.osl 2)) 26),(1,.own [.i .i64] [1] 2),(2,.own [.i .i64] [3] 2)])
theorem ok_l02Word_0:MOk Tryz.prog 284 (sp_l02Word_0 std):=by
 refine MOk.go (c:=cx std [(283,sp_s_l01Split std),(314,sp_s_l01Number std)] [] 1) (cx_ok (.cons ok_s_l01Split (.cons ok_s_l01Number .nil)) .nil) mixed Tryz.func284 rfl rfl (by kernel_rfl) ?_
 rintro w hp
 subst hp
 all_goals
  refine⟨rfl,?_⟩
  unfold sp_s_l01Split sp_s_l01Number
  cbv
  repeat' first
   | (refine fun (_:Unit)=>?_;cbv)
   | (refine aI2 (fun h=>?_) (fun h=>?_)<;>first | exact absurd h (by decide) | cbv)
   | (refine aI2 ?_ ?_)
   | (refine Or.inl (fun (_:Unit)=>?_);cbv)
 all_goals try exact Int.NonNeg.mk _
 all_goals try exact fin
def sp_l02Word_a (p:Pr):MSpec:=msp (mTw fun w=>!blkW w) (fun (t,w)=>(t=⟨[97],[1],[3],0⟩∧w=[101,49,120,51])∨(t=⟨[97,101],[1,1],[3,3],0⟩∧w=[110,50,120,50])∨(t=⟨[97,101,110],[1,1,2],[3,3,2],0⟩∧w=[114,50,120,50])∨(t=⟨[97,101,110,114],[1,1,2,2],[3,3,2,2],0⟩∧w=[115,49,120,50])∨(t=⟨[97,101,110,114,115],[1,1,2,2,1],[3,3,2,2,2],0⟩∧w=[116,50,120,50])) (fun (t,w)=>.b true) (fun (t,w)=>[(0,.cells (tsK (wordT t w) (.osl 3) (.osl 4)) 26),(3,.own [.i .i64] (wordT t w).values 2),(4,.own [.i .i64] (wordT t w).counts 2),(1,.gone),(2,.gone)])
theorem ok_l02Word_a:MOk Tryz.prog 284 (sp_l02Word_a std):=by
 refine MOk.go (c:=cx std [(283,sp_s_l01Split std),(314,sp_s_l01Number std)] [] 3) (cx_ok (.cons ok_s_l01Split (.cons ok_s_l01Number .nil)) .nil) mixed Tryz.func284 rfl rfl (by kernel_rfl) ?_
 rintro ⟨t,w⟩ hp
 dsimp only at hp
 rcases hp with ⟨rfl,rfl⟩ | ⟨rfl,rfl⟩ | ⟨rfl,rfl⟩ | ⟨rfl,rfl⟩ | ⟨rfl,rfl⟩
 all_goals
  refine⟨rfl,?_⟩
  unfold sp_s_l01Split sp_s_l01Number
  cbv
  repeat' first
   | (refine fun (_:Unit)=>?_;cbv)
   | (refine aI2 (fun h=>?_) (fun h=>?_)<;>first | exact absurd h (by decide) | cbv)
   | (refine aI2 ?_ ?_)
   | (refine Or.inl (fun (_:Unit)=>?_);cbv)
 all_goals try exact Int.NonNeg.mk _
 all_goals try exact fin
def sp_l02Word_b (p:Pr):MSpec:=msp (mTw blkW) (fun (t,w)=>t=⟨[97,101,110,114,115,116],[1,1,2,2,1,2],[3,3,2,2,2,2],0⟩∧w=[63,120,49]) (fun (t,w)=>.b true) (fun (t,w)=>[(0,.cells (tsK (wordT t w) (.osl 1) (.osl 2)) 26),(1,.own [.i .i64] t.values 2),(2,.own [.i .i64] t.counts 2)])
theorem ok_l02Word_b:MOk Tryz.prog 284 (sp_l02Word_b std):=by
 refine MOk.go (c:=cx std [(283,sp_s_l01Split std),(314,sp_s_l01Number std)] [] 3) (cx_ok (.cons ok_s_l01Split (.cons ok_s_l01Number .nil)) .nil) mixed Tryz.func284 rfl rfl (by kernel_rfl) ?_
 rintro ⟨t,w⟩ hp
 dsimp only at hp
 obtain⟨rfl,rfl⟩:=hp
 all_goals
  refine⟨rfl,?_⟩
  unfold sp_s_l01Split sp_s_l01Number
  cbv
  repeat' first
   | (refine fun (_:Unit)=>?_;cbv)
   | (refine aI2 (fun h=>?_) (fun h=>?_)<;>first | exact absurd h (by decide) | cbv)
   | (refine aI2 ?_ ?_)
   | (refine Or.inl (fun (_:Unit)=>?_);cbv)
 all_goals try exact Int.NonNeg.mk _
 all_goals try exact fin
def sp_s_l02Word (p:Pr):MSpec:=(sp_l02Word_0 p).or ((sp_l02Word_a p).or (sp_l02Word_b p))
theorem ok_s_l02Word:MOk Tryz.prog 284 (sp_s_l02Word std):=ok_l02Word_0.or (ok_l02Word_a.or ok_l02Word_b)
def sp_s_l02Text (p:Pr):FSpec:=fsp (a1 (aP aTs)) (fun t=>t=⟨[97,101,110,114,115,116],[1,1,2,2,1,2],[3,3,2,2,2,2],1⟩) (fun t=>.s smallS)
theorem ok_s_l02Text:FOk Tryz.prog 285 (sp_s_l02Text std):=by
 refine FOk.go (c:=cx std [(149,sp_s_l01Dec std)] [] 0) (cx_ok (.cons ok_s_l01Dec .nil) .nil) mixed Tryz.func285 rfl rfl rfl (by kernel_rfl) ?_
 rintro t hp
 subst hp
 all_goals
  refine⟨rfl,?_⟩
  unfold sp_s_l01Dec
  cbv
  repeat' first
   | (refine fun (_:Unit)=>?_;cbv)
   | (refine aI2 (fun h=>?_) (fun h=>?_)<;>first | exact absurd h (by decide) | cbv)
   | (refine aI2 ?_ ?_)
   | (refine Or.inl (fun (_:Unit)=>?_);cbv)
 all_goals try exact Int.NonNeg.mk _
 all_goals try exact fin
theorem sm_no (h:tsB smallT=false):False:=by rw [small_ok] at h;cases h
def sp_s_l02Read (p:Pr):FSpec:=fsp (a1 aS) (fun s=>s=smallS) (fun s=>.tup [.agg (tsK ⟨[97,101,110,114,115,116],[1,1,2,2,1,2],[3,3,2,2,2,2],1⟩ (.osl 0) (.osl 1)),.bt]) (fun s=>[(0,.own [.i .i64] [1,1,2,2,1,2] 2),(1,.own [.i .i64] [3,3,2,2,2,2] 2)])
theorem ok_s_l02Read:FOk Tryz.prog 229 (sp_s_l02Read std):=by
 refine FOk.go (c:=cx std [(283,sp_s_l01Split std),(171,sp_s_l02Ok std),(285,sp_s_l02Text std)] [(284,sp_s_l02Word std)] 0) (cx_ok (.cons ok_s_l01Split (.cons ok_s_l02Ok (.cons ok_s_l02Text .nil))) (.cons ok_s_l02Word .nil)) mixed Tryz.func229 rfl rfl rfl (by kernel_rfl) ?_
 rintro s hp
 subst hp
 all_goals
  refine⟨rfl,?_⟩
  unfold sp_s_l01Split sp_s_l02Word sp_s_l02Ok sp_s_l02Text
  generalize hB0:tsB=B0
  cbv
  repeat' first
   | (refine fun (_:Unit)=>?_;cbv)
   | (refine aI2 (fun h=>?_) (fun h=>?_)<;>first | exact absurd h (by decide) | cbv)
   | (refine aI2 ?_ ?_)
   | (refine Or.inl (fun (_:Unit)=>?_);cbv)
 all_goals subst hB0
 all_goals try (exfalso;exact sm_no ‹_›)
 all_goals try exact Int.NonNeg.mk _
 all_goals try exact fin
 ·exact⟨by decide,by decide,by decide⟩
def smallN:List UInt8:=[115,109,97,108,108]
def sp_s_l02Standard (p:Pr):FSpec:=fsp (a1 aS) (fun s=>s=smallN) (fun s=>.s smallS)
theorem ok_s_l02Standard:FOk Tryz.prog 230 (sp_s_l02Standard std):=by
 refine FOk.go (c:=cx std [] [] 0) (cx_ok .nil .nil) mixed Tryz.func230 rfl rfl rfl (by kernel_rfl) ?_
 rintro s hp
 subst hp
 all_goals
  refine⟨rfl,?_⟩
  cbv
  repeat' first
   | (refine fun (_:Unit)=>?_;cbv)
   | (refine aI2 (fun h=>?_) (fun h=>?_)<;>first | exact absurd h (by decide) | cbv)
   | (refine aI2 ?_ ?_)
   | (refine Or.inl (fun (_:Unit)=>?_);cbv)
 all_goals try exact Int.NonNeg.mk _
 all_goals try exact fin
def sp_s_StandardTiles (p:Pr):FSpec:=fsp (a1 aS) (fun s=>s=smallN) (fun s=>.tup [.agg (tsK ⟨[97,101,110,114,115,116],[1,1,2,2,1,2],[3,3,2,2,2,2],1⟩ (.osl 0) (.osl 1)),.i .i64 0]) (fun s=>[(0,.own [.i .i64] [1,1,2,2,1,2] 2),(1,.own [.i .i64] [3,3,2,2,2,2] 2)])
theorem ok_s_StandardTiles:FOk Tryz.prog 153 (sp_s_StandardTiles std):=by
 refine FOk.go (c:=cx std [(230,sp_s_l02Standard std),(229,sp_s_l02Read std)] [] 0) (cx_ok (.cons ok_s_l02Standard (.cons ok_s_l02Read .nil)) .nil) mixed Tryz.func153 rfl rfl rfl (by kernel_rfl) ?_
 rintro s hp
 subst hp
 all_goals
  refine⟨rfl,?_⟩
  unfold sp_s_l02Standard sp_s_l02Read
  cbv
  repeat' first
   | (refine fun (_:Unit)=>?_;cbv)
   | (refine aI2 (fun h=>?_) (fun h=>?_)<;>first | exact absurd h (by decide) | cbv)
   | (refine aI2 ?_ ?_)
   | (refine Or.inl (fun (_:Unit)=>?_);cbv)
 all_goals try exact Int.NonNeg.mk _
 all_goals try exact fin
end Ax
namespace Ax
set_option maxRecDepth 100000
set_option maxHeartbeats 2000000
def sp_s_l00Max (p:Pr):FSpec:=fsp (ac aI (a1 aI)) (fun (a,b)=>True) (fun (a,b)=>.i .i64 (maxI a b))
theorem ok_s_l00Max:FOk Tryz.prog 200 (sp_s_l00Max std):=by
 refine FOk.go (c:=cx std [] [] 0) (cx_ok .nil .nil) mixed Tryz.func200 rfl rfl rfl (by kernel_rfl) ?_
 rintro ⟨a,b⟩ hp
 dsimp only at hp
 refine⟨rfl,?_⟩
 generalize hP:std=p,hB0:maxI=B0
 cbv
 repeat' first
  | (refine fun (_:Unit)=>?_;cbv)
  | (refine aI2 (fun h=>?_) (fun h=>?_)<;>cbv)
  | (refine aI2 ?_ ?_)
  | (refine Or.inl (fun (_:Unit)=>?_);cbv)
 all_goals subst hP hB0
 all_goals try exact fin
 ·exact (if_pos (lt_of h)).symm
 ·exact (if_neg (Int.not_lt.2 (ge_of h))).symm
def sp_l00MinD (p:Pr):FSpec:=fsp (ac aI (a1 aI)) (fun (a,b)=>True) (fun (a,b)=>.i .i64 (minI a b))
theorem ok_l00MinD:FOk Tryz.prog 286 (sp_l00MinD std):=by
 refine FOk.go (c:=cx std [] [] 0) (cx_ok .nil .nil) mixed Tryz.func286 rfl rfl rfl (by kernel_rfl) ?_
 rintro ⟨a,b⟩ hp
 dsimp only at hp
 refine⟨rfl,?_⟩
 generalize hP:std=p,hB0:minI=B0
 cbv
 repeat' first
  | (refine fun (_:Unit)=>?_;cbv)
  | (refine aI2 (fun h=>?_) (fun h=>?_)<;>cbv)
  | (refine aI2 ?_ ?_)
  | (refine Or.inl (fun (_:Unit)=>?_);cbv)
 all_goals subst hP hB0
 all_goals try exact fin
 ·exact (if_pos (lt_of h)).symm
 ·exact (if_neg (Int.not_lt.2 (ge_of h))).symm
structure SbP (n r c:Int):Prop where
 lo:0≤n
 hi:n≤100
 r:0≤r∧r<n
 c:0≤c∧c<n
def stdI (n r c:Int):Int:=((stdV n r c).toNat : Int)
section
variable {n r c:Int}
theorem min_b {a b:Int} (h:0≤a∧a≤100) (h2:0≤b∧b≤100):0≤minI a b∧minI a b≤100:=by unfold minI;split<;>omega
theorem max_b {a b:Int} (h:0≤a∧a≤100) (h2:0≤b∧b≤100):0≤maxI a b∧maxI a b≤100:=by unfold maxI;split<;>omega
theorem SbP.a (h:SbP n r c):(0≤stdA n r c∧stdA n r c≤100)∧(0≤stdB n r c∧stdB n r c≤100):=by
 have h0:=h.lo;have h1:=h.hi;have h2:=h.r;have h3:=h.c
 have e1:0≤minI r (n-1-r)∧minI r (n-1-r)≤100:=min_b (by omega) (by omega)
 have e2:0≤minI c (n-1-c)∧minI c (n-1-c)≤100:=min_b (by omega) (by omega)
 exact⟨min_b e1 e2,max_b e1 e2⟩
theorem of_t {a b:Int} (h:std.eqI a b=true):a=b:=beq_iff_eq.1 h
theorem of_f {a b:Int} (h:std.eqI a b=false) : ¬a=b:=fun e=>by rw [show std.eqI a b=true from beq_iff_eq.2 e] at h;cases h
theorem SbP.q (h:SbP n r c):std.quo (std.sub n 1) 2=(n-1)/2:=quo_nn (by have:=h.r;show 0≤n-1;omega)
theorem SbP.m (h:SbP n r c) (k:Int):std.rem (std.add (stdA n r c) (stdB n r c)) k=(stdA n r c+stdB n r c)%k:=rem_nn (by have:=h.a;show 0≤stdA n r c+stdB n r c;omega)
theorem sv_t (h1:stdA n r c=0) (h2:stdB n r c=0∨stdB n r c=(n-1)/2):116=stdI n r c:=by
 unfold stdI stdV;rw [if_pos ⟨h1,h2⟩];rfl
theorem sv_d (h1 : ¬(stdA n r c=0∧(stdB n r c=0∨stdB n r c=(n-1)/2))) (h2:stdA n r c=stdB n r c):100=stdI n r c:=by
 unfold stdI stdV;rw [if_neg h1,if_pos h2];rfl
theorem sv_3 (h1 : ¬(stdA n r c=0∧(stdB n r c=0∨stdB n r c=(n-1)/2))) (h2 : ¬stdA n r c=stdB n r c) (h3:(stdA n r c+stdB n r c)%6=4):51=stdI n r c:=by
 unfold stdI stdV;rw [if_neg h1,if_neg h2,if_pos h3];rfl
theorem sv_2 (h1 : ¬(stdA n r c=0∧(stdB n r c=0∨stdB n r c=(n-1)/2))) (h2 : ¬stdA n r c=stdB n r c) (h3 : ¬(stdA n r c+stdB n r c)%6=4) (h4:(stdA n r c+stdB n r c)%4=3):50=stdI n r c:=by
 unfold stdI stdV;rw [if_neg h1,if_neg h2,if_neg h3,if_pos h4];rfl
theorem sv_n (h1 : ¬(stdA n r c=0∧(stdB n r c=0∨stdB n r c=(n-1)/2))) (h2 : ¬stdA n r c=stdB n r c) (h3 : ¬(stdA n r c+stdB n r c)%6=4) (h4 : ¬(stdA n r c+stdB n r c)%4=3):46=stdI n r c:=by
 unfold stdI stdV;rw [if_neg h1,if_neg h2,if_neg h3,if_neg h4];rfl
end
def sp_s_l11Standard (p:Pr):FSpec:=fsp (ac aI (ac aI (a1 aI))) (fun (n,r,c)=>SbP n r c) (fun (n,r,c)=>.i .u8 (stdI n r c))
theorem ok_s_l11Standard:FOk Tryz.prog 232 (sp_s_l11Standard std):=by
 refine FOk.go (c:=cx std [(200,sp_s_l00Max std),(286,sp_l00MinD std)] [] 0) (cx_ok (.cons ok_s_l00Max (.cons ok_l00MinD .nil)) .nil) mixed Tryz.func232 rfl rfl rfl (by kernel_rfl) ?_
 rintro ⟨n,r,c⟩ hp
 dsimp only at hp
 refine⟨rfl,?_⟩
 unfold sp_s_l00Max sp_l00MinD
 generalize hP:std=p,hB0:stdI=B0,hB1:minI=B1,hB2:maxI=B2
 cbv
 repeat' first
  | (refine fun (_:Unit)=>?_;cbv)
  | (refine aI2 (fun h=>?_) (fun h=>?_)<;>cbv)
  | (refine aI2 ?_ ?_)
  | (refine Or.inl (fun (_:Unit)=>?_);cbv)
 all_goals subst hP hB0 hB1 hB2
 all_goals try exact fin
 all_goals have g0:=hp.lo
 all_goals have g1:=hp.hi
 all_goals have g2:=hp.r
 all_goals have g3:=hp.c
 all_goals have g4:=hp.a
 all_goals try (have a1:stdA n r c=0:=of_t ‹_›)
 all_goals try (have a0 : ¬stdA n r c=0:=of_f ‹_›)
 all_goals try (have b1:stdB n r c=0:=of_t ‹_›)
 all_goals try (have b0 : ¬stdB n r c=0:=of_f ‹_›)
 all_goals try (have d1:stdB n r c=(n-1)/2:=by rw [←hp.q];exact of_t ‹_›)
 all_goals try (have d0 : ¬stdB n r c=(n-1)/2:=by rw [←hp.q];exact of_f ‹_›)
 all_goals try (have q1:stdA n r c=stdB n r c:=of_t ‹_›)
 all_goals try (have q0 : ¬stdA n r c=stdB n r c:=of_f ‹_›)
 all_goals try (have s1:(stdA n r c+stdB n r c)%6=4:=by rw [←hp.m];exact of_t ‹_›)
 all_goals try (have s0 : ¬(stdA n r c+stdB n r c)%6=4:=by rw [←hp.m];exact of_f ‹_›)
 all_goals try (have t1:(stdA n r c+stdB n r c)%4=3:=by rw [←hp.m];exact of_t ‹_›)
 all_goals try (have t0 : ¬(stdA n r c+stdB n r c)%4=3:=by rw [←hp.m];exact of_f ‹_›)
 all_goals first
  | exact sv_t a1 (.inl b1)
  | exact sv_t a1 (.inr d1)
  | exact sv_d (fun h=>a0 h.1) q1
  | exact sv_d (fun h=>h.2.elim b0 d0) q1
  | exact sv_3 (fun h=>a0 h.1) q0 s1
  | exact sv_3 (fun h=>h.2.elim b0 d0) q0 s1
  | exact sv_2 (fun h=>a0 h.1) q0 s0 t1
  | exact sv_2 (fun h=>h.2.elim b0 d0) q0 s0 t1
  | exact sv_n (fun h=>a0 h.1) q0 s0 t0
  | exact sv_n (fun h=>h.2.elim b0 d0) q0 s0 t0
  | exact in64 (by show _≤n-1∧n-1≤_;omega)
  | exact in64 (by show _≤n-1-r∧n-1-r≤_;omega)
  | exact in64 (by show _≤n-1-c∧n-1-c≤_;omega)
  | exact in64 (by show _≤stdA n r c+stdB n r c∧stdA n r c+stdB n r c≤_;omega)
  | (have h7:std.inK .i64 ((n-1)/2):=in64 (by omega)
     rw [←hp.q] at h7;exact h7)
  | skip
structure SdP (n:Int):Prop where
 n:n=5∨n=7∨n=9
def rowR (n r c:Int):List UInt8:=(List.range c.toNat).map fun k:Nat=>stdV n r k
def rowsR (n r:Int):List UInt8:=((List.range r.toNat).map fun k:Nat=>rowR n k n).flatten
section
variable {n r c:Int}
theorem rowR_s (h:0≤c):rowR n r (c+1)=rowR n r c++[stdV n r c]:=by
 unfold rowR
 rw [show (c+1).toNat =c.toNat+1 by omega,List.range_succ,List.map_append]
 simp [show ((c.toNat:Nat):Int)=c by omega]
theorem rowsR_s (h:0≤r):rowsR n (r+1)=rowsR n r++rowR n r n:=by
 unfold rowsR
 rw [show (r+1).toNat =r.toNat+1 by omega,List.range_succ,List.map_append,List.flatten_append]
 simp [show ((r.toNat:Nat):Int)=r by omega]
theorem rowsR_n:rowsR n n=stdP n:=rfl
theorem rowR_len:(rowR n r c).length =c.toNat:=by unfold rowR;simp
theorem rowsR_len:(rowsR n r).length =r.toNat*n.toNat:=by
 unfold rowsR
 generalize r.toNat=k
 induction k with
 | zero=>simp
 | succ k ih=>rw [List.range_succ,List.map_append,List.flatten_append,List.length_append,ih,Nat.succ_mul];simp [rowR_len]
theorem SdP.b (h:SdP n):5≤n∧n≤9:=by rcases h.n with e | e | e<;>omega
theorem sd1 (h:SdP n) (h2:inR n 5 15=false):False:=by
 rcases h.n with rfl | rfl | rfl<;>exact absurd h2 (by decide)
end
def sp_s_StandardBoard (p:Pr):FSpec:=fsp (a1 aI) (fun n=>SdP n) (fun n=>.tup [.agg (bdK (stdBd n)),.i .i64 0])
theorem ok_s_StandardBoard:FOk Tryz.prog 154 (sp_s_StandardBoard std):=by
 refine FOk.go (c:=cx std [(231,sp_s_l11Size std),(158,sp_s_l02Repeat std),(232,sp_s_l11Standard std)] [] 0) (cx_ok (.cons ok_s_l11Size (.cons ok_s_l02Repeat (.cons ok_s_l11Standard .nil))) .nil) mixed Tryz.func154 rfl rfl rfl (by kernel_rfl) ?_
 rintro n hp
 refine⟨rfl,?_⟩
 unfold sp_s_l11Size sp_s_l02Repeat sp_s_l11Standard
 obtain⟨H,hH⟩ : ∃H:Hd (Int×List Int),H=⟨fun (r,L)=>0≤r∧r≤n∧L=toBl (rowsR n r),fun (r,L)=>(n-r).toNat,(· < ·)⟩:=⟨_,rfl⟩
 have hl : ∀m n,H.lt m n→m<n:=by subst hH;exact fun _ _ h=>h
 obtain⟨H2,hH2⟩ : ∃H:(Int×List Int)→Hd (Int×List Int),H=fun (r,L)=>⟨fun (c,L2)=>0≤c∧c≤n∧L2=toBl (rowsR n r++rowR n r c),fun (c,L2)=>(n-c).toNat,(· < ·)⟩:=⟨_,rfl⟩
 have hl2 : ∀x m n,(H2 x).lt m n→m<n:=by subst hH2;exact fun _ _ _ h=>h
 generalize hP:std=p,hB0:stdP=B0,hB1:stdI=B1,hB2:inR=B2,hB3:rowR=B3,hB4:rowsR=B4,hB5:stdBd=B5,hB6:repC=B6,hB7:u8=B7
 cbv
 repeat' first
  | (refine fun (_:Unit)=>?_;cbv)
  | (refine Or.inr ⟨12,[],[.s 5 (.i .i64),.o 1 [.i .u8]],[.s 4],[],H,rfl,hl,?_,fun ((r,L):Int×List Int) hk=>?_⟩<;>cbv)
  | (refine Or.inr ⟨17,[],[.s 6 (.i .i64),.o 1 [.i .u8]],[.s 4],[],H2 (r,L),rfl,hl2 _,?_,fun ((c,L2):Int×List Int) hk2=>?_⟩<;>cbv)
  | (refine aI2 (fun h=>?_) (fun h=>?_)<;>cbv)
  | (refine aI2 ?_ ?_)
 all_goals subst hP hB0 hB1 hB2 hB3 hB4 hB5 hB6 hB7 hH hH2
 all_goals clear hl
 all_goals try dsimp only at hk
 all_goals clear hl2
 all_goals try dsimp only at hk2
 all_goals try dsimp only
 all_goals try (exfalso;exact sd1 hp ‹_›)
 all_goals try exact fin
 ·exact⟨Int.le_refl 0,by have:=hp.b;omega,rfl⟩
 all_goals obtain⟨g0,g1⟩:=hp.b
 all_goals try (obtain⟨q0,q1,q2⟩:=hk)
 all_goals try (have hr:r<n:=lt_of ‹_›)
 ·exact⟨Int.le_refl 0,by omega,by rw [q2];simp [rowR]⟩
 all_goals try (obtain⟨k0,k1,k2⟩:=hk2)
 all_goals try (have hc:c<n:=lt_of ‹_›)
 ·exact⟨by omega,by omega,⟨q0,hr⟩,⟨k0,hc⟩⟩
 ·have h7:L2.length≤200:=by
   rw [k2,toB_len,List.length_append,rowsR_len,rowR_len]
   have h8:r.toNat≤9:=by omega
   have h9:n.toNat≤9:=by omega
   have:=Nat.mul_le_mul h8 h9
   omega
  show (L2.length:Int)+1≤274877906944
  omega
 ·exact in64 (by show _≤c+1∧c+1≤_;omega)
 ·refine⟨by show 0≤c+1;omega,by show c+1≤n;omega,?_⟩
  show L2++[((stdV n r c).toNat : Int)]=toBl (rowsR n r++rowR n r (c+1))
  rw [k2,toB_snoc,rowR_s k0,List.append_assoc]
 ·exact in64 (by show _≤r+1∧r+1≤_;omega)
 ·have hc:n≤c:=ge_of ‹_›
  have hce:c=n:=by omega
  refine⟨by show 0≤r+1;omega,by show r+1≤n;omega,?_⟩
  show L2=toBl (rowsR n (r+1))
  rw [k2,rowsR_s q0,hce]
 ·have h7:n*n≤81:=by rcases hp.n with e | e | e<;>rw [e]<;>decide
  have h8:0≤n*n:=by rcases hp.n with e | e | e<;>rw [e]<;>decide
  exact in64 (by show _≤n*n∧n*n≤_;omega)
 ·have h7:n*n≤81:=by rcases hp.n with e | e | e<;>rw [e]<;>decide
  show n*n≤200
  omega
 ·have hr:n≤r:=ge_of ‹_›
  show toSl L=stdP n
  rw [q2,toS_toB,show r=n by omega,rowsR_n]
end Ax
namespace Ax
set_option maxRecDepth 100000
set_option maxHeartbeats 2000000
section
variable {b:Bd} {q:Pl} {i:Nat}
theorem words_same (hb:bdB b=true) (hon:OnQ b q) (hw:lettB q.word=true):wordsL b q=wordsI b q:=by
 unfold wordsL wordsI formedL crossW crossP sqL
 rw [fresh_new hb hon,flatP_word,List.map_cons]
 congr 1
 have hlt : ∀x∈newL b q,x<q.word.length:=fun x hx=>List.mem_range.1 (List.mem_filter.1 hx).1
 generalize newL b q=N at hlt
 unfold keepL
 induction N with
 | nil=>rfl
 | cons x N ih=>
   have ih:=ih fun y hy=>hlt y (List.mem_cons_of_mem _ hy)
   have hx:=cross_seq hb hon (hlt x (List.mem_cons_self ..)) hw
   have hlen:(crossAt (flatB b q) (flatP q) x).length =(seqL (madeB b q) (!q.down) (q.sr x) (q.sc x)).length :=by rw [hx];simp [sqW]
   simp only [List.map_cons,List.filter_cons,hlen]
   by_cases h2:2≤(seqL (madeB b q) (!q.down) (q.sr x) (q.sc x)).length
   ·rw [if_pos (by simp;omega),if_pos (by simpa using h2),List.map_cons,List.map_cons,ih,hx]
   ·rw [if_neg (by simp;omega),if_neg (by simpa using h2),ih]
theorem formed_wds {b:Bd} {q:Pl} (hb:bdB b=true) (hon:OnQ b q) (hw:lettB q.word=true):(formedL (flatB b q) (flatP q)).length =(wordsI b q).length :=by
 rw [←words_same hb hon hw,wordsL,List.length_map]
theorem empty_new {b:Bd} (hb:bdB b=true) {q:Pl} (hon:OnQ b q) (h:lettersS b=[]):newL b q=List.range q.word.length:=by
 unfold newL newTo
 rw [List.filter_eq_self]
 intro i hi
 have hin:=hon i (List.mem_range.1 hi)
 have hm:=at_mem (bdB.fit hb) hin
 unfold lettersS at h
 rw [List.filter_eq_nil_iff] at h
 have:=h _ hm
 unfold Bd.let_
 rw [cell_in hin]
 simp at this
 simp [this]
theorem touch_same {b:Bd} (hb:bdB b=true) {q:Pl} (hv:validI b q=true):touchB b q=touchI b q:=by
 obtain⟨hon,hw,h2,h12⟩:=validI_facts hv
 unfold touchB touchI
 by_cases h:lettersS b=[]
 ·rw [if_pos h,h,if_pos (by rfl),empty_new hb hon h]
  rw [Bool.eq_iff_iff,List.any_eq_true]
  simp only [Bool.and_eq_true,decide_eq_true_eq]
  unfold flatP Pl.tr sqL Pl.sr Pl.sc
  constructor
  ·rintro ⟨h3,h4,h5⟩
   cases hd:q.down
   ·simp only [hd,Bool.false_eq_true,if_false] at h3 h4 h5 ⊢
    refine⟨_,List.mem_map.2 ⟨(b.size/2-q.col).toNat,List.mem_range.2 (by omega),rfl⟩,?_⟩
    rw [beq_iff_eq,Prod.mk.injEq]
    omega
   ·simp only [hd,if_true] at h3 h4 h5 ⊢
    refine⟨_,List.mem_map.2 ⟨(b.size/2-q.row).toNat,List.mem_range.2 (by omega),rfl⟩,?_⟩
    rw [beq_iff_eq,Prod.mk.injEq]
    omega
  ·rintro ⟨x,hx,he⟩
   obtain⟨i,hi,rfl⟩:=List.mem_map.1 hx
   have hi:=List.mem_range.1 hi
   rw [beq_iff_eq,Prod.mk.injEq] at he
   cases hd:q.down<;>simp only [hd,Bool.false_eq_true,if_false,if_true] at he ⊢ <;>omega
 ·have h':(lettersS b).isEmpty =false:=by rw [Bool.eq_false_iff];intro e;exact h (List.isEmpty_iff.1 e)
  rw [if_neg h,h',if_neg (by decide),fresh_new hb hon,formed_wds hb hon hw]
theorem legal_same {b:Bd} (hb:bdB b=true) (lex:List Str) {rack:Str} (hr:rackB rack=true) (q:Pl):legalC b lex rack q=codeI b lex rack q:=by
 unfold legalC codeI
 rw [okB_validI hb]
 cases hv:validI b q
 ·rfl
 ·obtain⟨hon,hw,h2,h12⟩:=validI_facts hv
  rw [placed_new hb hon,take_less hr (placedI_lett hw),touch_same hb hv]
  unfold doubleB wrongL wrongS
  rw [fresh_new hb hon,formed_wds hb hon hw,words_same hb hon hw]
end
end Ax
namespace Ax
set_option maxRecDepth 100000
set_option maxHeartbeats 2000000
section
variable {g:Gm} {q:Pl} {n:Int}
theorem sg (h:std.eqI (actC g n) 0=true):gameB g=true:=by
 have h:=eqI_t h
 unfold actC at h
 by_cases h1:gameB g=true
 ·exact h1
 ·rw [if_neg h1] at h;exact absurd h (by decide)
theorem sg_bd (h:gameB g=true):bdB g.bd=true∧rackB (g.rk g.player)=true:=by
 unfold gameB shapeB twoB sideB at h
 simp only [Bool.and_eq_true,decide_eq_true_eq] at h
 exact⟨h.1.2.1,rk_valid h.2.2.1.1.1 h.2.2.1.2.1 h.2.1.2.2.2.1⟩
theorem sg_code (h:std.eqI (actC g n) 0=true):legalC g.bd g.lex (g.rk g.player) q=codeI g.bd g.lex (g.rk g.player) q:=
 legal_same (sg_bd (sg h)).1 _ (sg_bd (sg h)).2 q
theorem sg_score (h:std.eqI (actC g n) 0=true) (hv:validI g.bd q=true):scoreV g.ts g.bd q=scoreI g.ts g.bd q:=by
 unfold scoreV
 exact score_same (sg_bd (sg h)).1 hv
theorem se1 (hc:turnC g q n=0) (h:std.eqI (actC g n) 0=false):False:=by
 have h1:=eqI_f h
 unfold turnC at hc
 rw [if_neg h1] at hc
 exact h1 hc
theorem se2 (hc:turnC g q n=0) (h:std.eqI (actC g n) 0=true) (h2:waitsB g=true):False:=by
 have h1:=eqI_t h
 unfold turnC at hc
 rw [if_pos h1,if_pos h2] at hc
 exact absurd hc (by decide)
theorem se3 (hc:turnC g q n=0) (h:std.eqI (actC g n) 0=true) (h2:waitsB g=false) (h3:std.eqI (legalC g.bd g.lex (g.rk g.player) q) 0=false) (h4:std.eqI (legalC g.bd g.lex (g.rk g.player) q) 9=false∨std.eqI g.rule 0=true):False:=by
 have h1:=eqI_t h
 have h3:=eqI_f h3
 rw [sg_code h] at h3 h4
 unfold turnC at hc
 rw [if_pos h1,if_neg (by rw [h2];simp),if_pos ⟨h3,h4.imp eqI_f eqI_t⟩] at hc
 exact h3 hc
theorem se_val (h:std.eqI (actC g n) 0=true) (h3:std.eqI (legalC g.bd g.lex (g.rk g.player) q) 0=true∨std.eqI (legalC g.bd g.lex (g.rk g.player) q) 9=true):validI g.bd q=true∧withoutB (g.rk g.player) (tilesP (placedI g.bd q))=true:=by
 rw [sg_code h] at h3
 exact codeI_no2 (h3.imp eqI_t eqI_t)
end
end Ax
namespace Ax
set_option maxRecDepth 100000
set_option maxHeartbeats 2000000
structure StP' (g:Gm) (q:Pl):Prop where
 gm:GmL g
 wd:q.word.length≤1073741824
 own:GmP g
section
variable {g:Gm} {q:Pl} {n:Int}
structure GmS' (g:Gm):Prop where
 bd:bdB g.bd=true
 ts:tsB g.ts=true
 lex:lexB g.lex=true
 bag:bagB g.bag=true
 rk : ∀k:Int,rackB (g.rk k)=true
 sc : ∀k:Int, -100000≤g.sc k∧g.sc k≤100000
 clk : ∀k:Int, -36000≤g.clk k∧g.clk k≤36000
theorem gm_s' (h:gameB g=true):GmS' g:=by
 unfold gameB shapeB setupB twoB sideB at h
 simp only [Bool.and_eq_true,decide_eq_true_eq] at h
 have hp:=in_bd h.2.1.2.2.2.1
 have hg : ∀k:Int,g.rk k=g.racks.getD 0 []∨g.rk k=g.racks.getD 1 []∨g.rk k=[]:=fun k=>by
  unfold Gm.rk
  rcases (show k.toNat=0∨k.toNat=1∨2≤k.toNat by omega) with e | e | e
  ·rw [e];exact .inl rfl
  ·rw [e];exact .inr (.inl rfl)
  ·exact .inr (.inr (by rw [List.getD_eq_getElem?_getD,List.getElem?_eq_none (by have:=h.2.1.1;omega)];rfl))
 have hr : ∀k:Int,rackB (g.rk k)=true:=fun k=>by
  rcases hg k with e | e | e<;>rw [e]
  ·exact h.2.2.1.1.1
  ·exact h.2.2.1.2.1
  ·rfl
 have s0:=in_bd h.2.2.1.1.2.1
 have s1:=in_bd h.2.2.1.2.2.1
 have k0:=in_bd h.2.2.1.1.2.2
 have k1:=in_bd h.2.2.1.2.2.2
 refine⟨h.1.2.1,h.1.1.1,h.1.1.2.1,h.1.2.2.2.2,hr,fun k=>?_,fun k=>?_⟩
 ·unfold Gm.sc
  rcases (show k.toNat=0∨k.toNat=1∨2≤k.toNat by omega) with e | e | e
  ·rw [e];exact s0
  ·rw [e];exact s1
  ·rw [List.getD_eq_getElem?_getD,List.getElem?_eq_none (by have:=h.2.1.2.1;omega)];decide
 ·unfold Gm.clk
  rcases (show k.toNat=0∨k.toNat=1∨2≤k.toNat by omega) with e | e | e
  ·rw [e];exact k0
  ·rw [e];exact k1
  ·rw [List.getD_eq_getElem?_getD,List.getElem?_eq_none (by have:=h.2.1.2.2.1;omega)];decide
structure SyG (g:Gm) (n:Int):Prop where
 fa:SaF g
 r2:g.racks.length=2
 ok:GmS' g
 c : -36000≤g.clk g.player-n
 nb:0≤n∧n≤36000
 s : -50000≤g.sc g.player∧g.sc g.player≤50000
theorem syg (h:std.eqI (actC g n) 0=true):SyG g n:=by
 have h:=eqI_t h
 unfold actC at h
 by_cases h1:gameB g=true
 ·rw [if_pos h1] at h
  by_cases h2:g.over=true
  ·rw [if_pos h2] at h;exact absurd h (by decide)
  ·rw [if_neg h2] at h
   by_cases h3:(inR n 0 36000&&decide (-36000≤g.clk g.player-n))=true
   ·rw [if_pos h3] at h
    by_cases h4:(inR (g.sc 0) (-50000) 50000&&inR (g.sc 1) (-50000) 50000)=true
    ·rw [Bool.and_eq_true] at h3 h4
     have hf:=sa_facts h1
     have hp:=hf.ply
     refine⟨hf,?_,gm_s' h1,of_decide_eq_true h3.2,in_bd h3.1,?_⟩
     ·unfold gameB twoB at h1
      simp only [Bool.and_eq_true,decide_eq_true_eq] at h1
      exact h1.2.1.1
     ·rcases (show g.player=0∨g.player=1 by omega) with e | e<;>rw [e]
      ·exact in_bd h4.1
      ·exact in_bd h4.2
    ·rw [if_neg h4] at h;exact absurd h (by decide)
   ·rw [if_neg h3] at h;exact absurd h (by decide)
 ·rw [if_neg h1] at h;exact absurd h (by decide)
structure SyC (g:Gm) (q:Pl):Prop where
 pl:PlP g.bd q
 ts:TsOk g.ts
 v:validI g.bd q=true
 w:withoutB (g.rk g.player) (tilesP (placedI g.bd q))=true
 rs:takeS (g.rk g.player) (tilesS (placedS (flatB g.bd q) (flatP q)))=restT g q
 rk:rackB (restT g q)=true
 sc:0≤scoreV g.ts g.bd q∧scoreV g.ts g.bd q≤440800000050
theorem syc (hG:SyG g n) (h:std.eqI (actC g n) 0=true) (h3:std.eqI (legalC g.bd g.lex (g.rk g.player) q) 0=true∨std.eqI (legalC g.bd g.lex (g.rk g.player) q) 9=true):SyC g q:=by
 obtain⟨h1,h2⟩:=se_val h h3
 have hts:=tsB_ok hG.ok.ts
 have hr:=hG.ok.rk g.player
 refine⟨okB_on (by rw [okB_validI hG.ok.bd];exact h1),hts,h1,h2,rest_spec hG.ok.bd hr h1 h2,(restT_ok hG.ok.bd hr h1 h2).2.2,?_⟩
 rw [sg_score h h1]
 exact Go.Proofs.YtjjonmhpgkahoaaGreatDoor.score_bd hts g.bd q (by have:=(validI_facts h1).2.2.2;omega)
theorem sturn_of (hc:turnC g q n=0):std.eqI (actC g n) 0=true∧SyG g n∧SyC g q:=by
 unfold turnC at hc
 by_cases h1:actC g n=0
 ·have h:std.eqI (actC g n) 0=true:=by simpa using h1
  rw [if_pos h1] at hc
  refine⟨h,syg h,syc (syg h) h ?_⟩
  rw [sg_code h]
  by_cases h2:waitsB g=true
  ·rw [if_pos h2] at hc;exact absurd hc (by decide)
  ·rw [if_neg h2] at hc
   by_cases h3:codeI g.bd g.lex (g.rk g.player) q=0
   ·exact .inl (by simpa using h3)
   ·by_cases h4:codeI g.bd g.lex (g.rk g.player) q=9
    ·exact .inr (by simpa using h4)
    ·rw [if_pos ⟨h3,.inl h4⟩] at hc
     exact absurd hc h3
 ·rw [if_neg h1] at hc
  exact absurd hc h1
theorem waits_turn1 (hG:SyG g n):waitsB (turn1 g q n)=(isort (restT g q++g.bag.take (drawN g.bag (restT g q)))).isEmpty :=by
 have hp:=hG.fa.ply
 have hr:=hG.r2
 have e:(turn1 g q n).rk (1-(turn1 g q n).player)=isort (restT g q++g.bag.take (drawN g.bag (restT g q))):=by
  show (g.racks.set g.player.toNat (isort (restT g q++g.bag.take (drawN g.bag (restT g q))))).getD (1-(1-g.player)).toNat []=_
  rw [show (1-(1-g.player)).toNat =g.player.toNat by omega,List.getD_eq_getElem?_getD,List.getElem?_set_self (by omega)];rfl
 unfold waitsB
 rw [e]
 show ((g.bag.drop (drawN g.bag (restT g q))).isEmpty &&_)=_
 cases h:(isort (restT g q++g.bag.take (drawN g.bag (restT g q)))).isEmpty with
 | false=>simp
 | true=>rw [draw_empty h];rfl
theorem sq4 (hc:turnC g q n=0) (h:std.eqI (actC g n) 0=true) (h2:waitsB g=false) (h5:std.ltI 20000 (scoreV g.ts g.bd q)=true∨inR (g.sc g.player+scoreV g.ts g.bd q) (-50000) 50000=false):False:=by
 obtain⟨-,hG,hC⟩:=sturn_of hc
 have e:=sg_score h hC.v
 rw [e] at h5
 have hs:=hG.s
 have hc2:=hC.sc
 rw [e] at hc2
 have h1:=eqI_t h
 unfold turnC at hc
 rw [if_pos h1,if_neg (by rw [h2];simp)] at hc
 split at hc
 ·rename_i h6;exact h6.1 hc
 ·rw [if_pos (h5.imp lt_of fun h6=>by simp only [inR,Bool.and_eq_false_iff,decide_eq_false_iff_not] at h6;omega)] at hc
  exact absurd hc (by decide)
theorem sturn_sc (hc:turnC g q n=0):scoreI g.ts g.bd q≤20000:=by
 unfold turnC at hc
 by_cases h1:actC g n=0
 ·rw [if_pos h1] at hc
  by_cases h2:waitsB g=true
  ·rw [if_pos h2] at hc;exact absurd hc (by decide)
  ·rw [if_neg h2] at hc
   split at hc
   ·rename_i h6;exact absurd hc h6.1
   ·split at hc
    ·exact absurd hc (by decide)
    ·rename_i h7;omega
 ·rw [if_neg h1] at hc
  exact absurd hc h1
theorem setg_bd {α:Type} {L:List α} {i k:Nat} {x d:α} {P:α→Prop} (hx:P x) (h:P (L.getD k d)):P ((L.set i x).getD k d):=by
 rw [List.getD_eq_getElem?_getD,List.getElem?_set]
 rw [List.getD_eq_getElem?_getD] at h
 split
 ·split
  ·exact hx
  ·rename_i e1 e2
   subst e1
   rw [List.getElem?_eq_none (by omega)] at h
   exact h
 ·exact h
theorem set_turn1 (hc:turnC g q n=0):SetP (turn1 g q n):=by
 obtain⟨h,hG,hC⟩:=sturn_of hc
 have hsc:=hG.s
 have hs:=sturn_sc hc
 have hc2:=hC.sc
 rw [sg_score h hC.v] at hc2
 have hz : ∀k:Int, -1000000≤(turn1 g q n).sc k∧(turn1 g q n).sc k≤1000000:=fun k=>
  setg_bd (P:=fun x:Int=> -1000000≤x∧x≤1000000) (L:=g.scores) (i:=g.player.toNat) (k:=k.toNat) (x:=g.sc g.player+scoreI g.ts g.bd q) (d:=0) (by show -1000000≤g.sc g.player+scoreI g.ts g.bd q∧g.sc g.player+scoreI g.ts g.bd q≤1000000;omega) (by have:=hG.ok.sc k;unfold Gm.sc at this;omega)
 refine⟨⟨hC.ts,?_,?_,fun k=>?_,fun k=>?_⟩,?_,fun k=>(hz k).1,fun k=>(hz k).2⟩
 ·show (g.racks.set g.player.toNat _).length =2
  rw [List.length_set];exact hG.r2
 ·show (g.clocks.set g.player.toNat _).length =2
  rw [List.length_set];exact hG.fa.k
 ·refine setg_bd (P:=fun x:List UInt8=>x.length≤7) (L:=g.racks) (i:=g.player.toNat) (k:=k.toNat) (d:=[]) ?_ (rack_len (hG.ok.rk k))
  have h1:=rack_len hC.rk
  rw [isort_length,List.length_append,List.length_take]
  unfold drawN;omega
 ·exact setg_bd (P:=fun x:Int=> -36000≤x) (L:=g.clocks) (i:=g.player.toNat) (k:=k.toNat) (x:=g.clk g.player-n) (d:=0) hG.c (by have:=hG.ok.clk k;unfold Gm.clk at this;omega)
 ·show (g.scores.set g.player.toNat _).length =2
  rw [List.length_set];exact hG.fa.s
end
end Ax
namespace Ax
set_option maxRecDepth 100000
set_option maxHeartbeats 2000000
def canB (g:Gm):Bool:=!g.over&&(!(g.rule==0)&&g.last.kind==1)
def vWords (g:Gm):List (List UInt8):=wordsL g.bef g.last.play
def vWrong (g:Gm):List (List UInt8):=wrongL g.bef g.lex g.last.play
def vUp (g:Gm):Bool:=!(vWrong g).isEmpty
def vPts (g:Gm):Int:=if vUp g then 0-g.last.score else if g.rule=3 then 5*((vWords g).length : Int) else 0
def wBag (g:Gm):List UInt8:=g.last.drawn++g.bag
def wRest (g:Gm):List UInt8:=takeS (g.rk g.last.player) (isort g.last.drawn)
def wTil (g:Gm):List UInt8:=tilesS (placedS (flatB g.bef g.last.play) (flatP g.last.play))
def wRack (g:Gm):List UInt8:=isort (wRest g++wTil g)
def wRks (g:Gm):List (List UInt8):=g.racks.set g.last.player.toNat (wRack g)
def wSc (g:Gm):List Int:=g.scores.set g.last.player.toNat (g.sc g.last.player-g.last.score)
def wd1 (g:Gm):Gm:=⟨g.ts,g.lex,g.bd0,g.secs,g.rule,⟨g.bd.size,g.bd.prem,g.last.before⟩,wBag g,wRks g,wSc g,g.clocks,g.player,g.last.zeros+1,idleL 3 g.last.player,g.over⟩
def wEnd (g:Gm):Bool:=g.last.zeros+1==6
def wSs (g:Gm):List Int:=if wEnd g then setSc (wd1 g) else wSc g
def wOv (g:Gm):Bool:=g.over||wEnd g
def wZe (g:Gm):Int:=g.last.zeros+1
def wdG (g:Gm):Gm:=⟨g.ts,g.lex,g.bd0,g.secs,g.rule,⟨g.bd.size,g.bd.prem,g.last.before⟩,wBag g,wRks g,wSs g,g.clocks,g.player,wZe g,⟨3,g.last.player,⟨0,0,false,[]⟩,[],[],0,0⟩,wOv g⟩
section
variable {g:Gm}
end
end Ax
namespace Ax
set_option maxRecDepth 100000
set_option maxHeartbeats 2000000
theorem takeGo_len : ∀(a b:Str),(takeGo a b).2=[]→(takeGo a b).1.length + b.length=a.length
 | [],b,h=>by
   rw [takeGo] at h ⊢
   simp only at h ⊢
   rw [h];rfl
 | x::a,[],_=>by
   have:=takeGo_len a [] (takeGo_nil a)
   rw [takeGo]
   simp only [List.length_cons,List.length_nil] at this ⊢
   omega
 | x::a,y::b,h=>by
   rw [takeGo] at h ⊢
   by_cases hx:y=x
   ·rw [if_pos hx] at h ⊢
    have:=takeGo_len a b h
    simp only [List.length_cons]
    omega
   ·rw [if_neg hx] at h ⊢
    have:=takeGo_len a (y::b) h
    simp only [List.length_cons] at this ⊢
    omega
theorem takeS_len {a b:Str} (h:takeB a b=true):(takeS a b).length + b.length=a.length:=takeGo_len a b (List.isEmpty_iff.1 h)
def rSc (g:Gm) (k:Int):List Int:=g.scores.set g.last.player.toNat (g.sc g.last.player+k)
def rf1 (g:Gm) (k:Int):Gm:=⟨g.ts,g.lex,g.bd0,g.secs,g.rule,g.bd,g.bag,g.racks,rSc g k,g.clocks,if g.rule=2 then 1-g.player else g.player,if g.rule=2 then g.zeros+1 else g.zeros,if g.rule=2 then idleL 3 g.player else idleL 0 0,g.over⟩
def rfG (g:Gm) (k:Int):Gm:=if waitsB g then { rf1 g k with scores:=setSc (rf1 g k),over:=true } else rf1 g k
def chC (g:Gm) (n:Int):Int:=if actC g n=0 then (if canB g then 0 else 6) else actC g n
def chG (g:Gm) (n:Int):Gm:=if vUp g then wdG (clockG g n) else rfG (clockG g n) (vPts g)
section
variable {g:Gm} {n:Int}
structure PkF (g:Gm):Prop where
 pl:g.last.player=1-g.player
 ok:okB g.bef g.last.play=true
 z:0≤g.last.zeros∧g.last.zeros≤5
 gz:g.zeros=0
 dr:bagB g.last.drawn=true
 tk:takeB (g.rk g.last.player) (isort g.last.drawn)=true
 fr:((g.rk g.last.player).length : Int)-g.last.drawn.length+(freshL (flatB g.bef g.last.play) (flatP g.last.play)).length ≤7
 so:g.last.score=scoreS g.ts (flatB g.bef g.last.play) (flatP g.last.play)
 s2:g.last.score≤20000
theorem pkf (h:playOk g=true):PkF g:=by
 unfold playOk at h
 simp only [Bool.and_eq_true,beq_iff_eq,decide_eq_true_eq] at h
 obtain⟨a1,a2,a3,a4,a5,a6,a7,a8,a9,a10,a11,a12⟩:=h
 exact⟨a1,a2,in_bd a3,a4,a5,a6,a9,a11,a12⟩
end
end Ax
namespace Ax
set_option maxRecDepth 100000
set_option maxHeartbeats 2000000
theorem emp_iz (s:List UInt8):s.isEmpty=std.eqS s []:=by cases s<;>rfl
def idleG (g:Gm) (k n:Int):Gm:=⟨g.ts,g.lex,g.bd0,g.secs,g.rule,g.bd,g.bag,g.racks,g.scores,ckL g n,1-g.player,g.zeros+1,idleL k g.player,g.over⟩
def idleE (g:Gm):Bool:=waitsB g||g.zeros+1==6
def zeroG (g:Gm) (k n:Int):Gm:=if idleE g then settleG (idleG g k n) else idleG g k n
def passR (g:Gm) (n:Int):Gm:=if actC g n=0 then zeroG g 3 n else gm0
def exC (a b t:List UInt8):Int:=if bagB a&&(rackB b&&pileB t) then (if t.isEmpty then 2 else if takeB b t then (if a.length<7 then 6 else 0) else 3) else 1
def exR (a b t:List UInt8):List UInt8:=if exC a b t=0 then isort (takeS b t++a.take t.length) else []
def exB (a b t:List UInt8):List UInt8:=if exC a b t=0 then a.drop t.length++t else []
def xtC (g:Gm) (t:List UInt8) (n:Int):Int:=if pileB t then (if actC g n=0 then exC g.bag (g.rk g.player) t else actC g n) else 1
def xtG (g:Gm) (t:List UInt8):Gm:=⟨g.ts,g.lex,g.bd0,g.secs,g.rule,g.bd,exB g.bag (g.rk g.player) t,g.racks.set g.player.toNat (exR g.bag (g.rk g.player) t),g.scores,g.clocks,g.player,g.zeros,g.last,g.over⟩
def xtR (g:Gm) (t:List UInt8) (n:Int):Gm:=if xtC g t n=0 then zeroG (xtG g t) 2 n else gm0
section
variable {g:Gm} {a b t:List UInt8} {k n:Int}
structure ExF (a b t:List UInt8):Prop where
 ha:bagB a=true
 hb:rackB b=true
 ht:pileB t=true
 ne:t≠[]
 tk:takeB b t=true
 la:7≤a.length∧a.length≤120
 lb:b.length≤7
 lt:t.length≤b.length
 lr:(takeS b t).length + t.length=b.length
theorem ex_f (h:exC a b t=0):ExF a b t:=by
 unfold exC at h
 by_cases h1:(bagB a&&(rackB b&&pileB t))=true
 ·rw [if_pos h1] at h
  simp only [Bool.and_eq_true] at h1
  by_cases h2:t.isEmpty=true
  ·rw [if_pos h2] at h;exact absurd h (by decide)
  ·rw [if_neg h2] at h
   by_cases h3:takeB b t=true
   ·rw [if_pos h3] at h
    by_cases h4:a.length<7
    ·rw [if_pos h4] at h;exact absurd h (by decide)
    ·have h5:=takeS_len h3
     have h6:=rack_len h1.2.1
     exact⟨h1.1,h1.2.1,h1.2.2,by simpa using h2,h3,⟨by omega,bag_len h1.1⟩,h6,by omega,h5⟩
   ·rw [if_neg h3] at h;exact absurd h (by decide)
 ·rw [if_neg h1] at h;exact absurd h (by decide)
theorem exR_eq (h:exC a b t=0):exR a b t=isort (takeS b t++a.take t.length):=if_pos h
theorem exB_eq (h:exC a b t=0):exB a b t=a.drop t.length++t:=if_pos h
theorem exR_len (h:exC a b t=0):(exR a b t).length ≤7:=by
 have hf:=ex_f h
 have:=hf.lb;have:=hf.lr
 rw [exR_eq h,isort_length,List.length_append,List.length_take];omega
theorem exB_len (h:exC a b t=0):(exB a b t).length =a.length:=by
 have hf:=ex_f h
 have:=hf.la;have:=hf.lt;have:=hf.lb
 rw [exB_eq h,List.length_append,List.length_drop];omega
theorem xt_act (h:xtC g t n=0):std.eqI (actC g n) 0=true∧pileB t=true∧exC g.bag (g.rk g.player) t=0:=by
 unfold xtC at h
 by_cases h1:pileB t=true
 ·rw [if_pos h1] at h
  by_cases h2:actC g n=0
  ·rw [if_pos h2] at h
   exact⟨by simpa using h2,h1,h⟩
  ·rw [if_neg h2] at h;exact absurd h h2
 ·rw [if_neg h1] at h;exact absurd h (by decide)
theorem set_idle (hG:SyG g n) {r:List (List UInt8)} {b:List UInt8} (hr:r.length=2) (h7 : ∀k:Int,(r.getD k.toNat []).length ≤7):SetP (idleG ⟨g.ts,g.lex,g.bd0,g.secs,g.rule,g.bd,b,r,g.scores,g.clocks,g.player,g.zeros,g.last,g.over⟩ k n):=by
 have hz : ∀k:Int, -1000000≤g.sc k∧g.sc k≤1000000:=fun k=>by
  have:=hG.ok.sc k
  omega
 refine⟨⟨tsB_ok hG.ok.ts,hr,?_,fun k=>h7 k,fun k=>?_⟩,hG.fa.s,fun k=>(hz k).1,fun k=>(hz k).2⟩
 ·show (g.clocks.set g.player.toNat _).length =2
  rw [List.length_set];exact hG.fa.k
 ·exact setg_bd (P:=fun x:Int=> -36000≤x) (L:=g.clocks) (i:=g.player.toNat) (k:=k.toNat) (x:=g.clk g.player-n) (d:=0) hG.c (by have:=hG.ok.clk k;unfold Gm.clk at this;omega)
theorem rk_set (h:(exR a b t).length ≤7) (hr : ∀k:Int,(g.rk k).length ≤7) (i:Nat) (k:Int):((g.racks.set i (exR a b t)).getD k.toNat []).length ≤7:=
 setg_bd (P:=fun x:List UInt8=>x.length≤7) (L:=g.racks) (i:=i) (k:=k.toNat) (d:=[]) h (hr k)
end
end Ax
end Go.Proofs.YtjjonmhpgkahoaaGreatDoor
