/-
  The laws package: whether marks are held by rows, tile sets, games; The law of PlayTurn; Records, of the impl package: the best turn; The plain walker: what a function has made, but for some things, may be told as frozen where its first part ends.
  Conditions: none; the tables of types and of functions are as the program has them.
-/
import Derived.Test.YtghmphmbpdiflaaGreatDoorE44
import Derived.Test.YtghmphmbpdiflaaGreatDoorE36
import Derived.Test.YtghmphmbpdiflaaGreatDoorE41
import Derived.Test.YtghmphmbpdiflaaGreatDoorE25
import Derived.Test.YtghmphmbpdiflaaGreatDoorE43
set_option linter.unusedSimpArgs false
set_option linter.unusedVariables false
namespace Go.Proofs.YtghmphmbpdiflaaGreatDoor
namespace Ax
set_option maxRecDepth 100000
set_option maxHeartbeats 2000000
def heldN:List Int→Int→Int
 | [],k=>k
 | x::r,k=>if x=k then heldN r (k+1) else -1
def heldW:List (List UInt8)→Int→Int
 | [],k=>k
 | x::r,k=>if x=markI k then heldW r (k+1) else -1
def heldTs (t:TS) (k:Int):Int:=if heldN t.values k<0 then -1 else heldN t.counts (heldN t.values k)
def heldSu (u:Su) (k:Int):Int:=if heldTs u.ts k<0 then -1 else heldW u.lex (heldTs u.ts k)
def heldG1 (g:Gm) (k:Int):Int:=if heldSu (gSu g) k<0 then -1 else heldW g.racks (heldSu (gSu g) k)
def heldG2 (g:Gm) (k:Int):Int:=if heldG1 g k<0 then -1 else heldN g.scores (heldG1 g k)
def heldGm (g:Gm) (k:Int):Int:=if heldG2 g k<0 then -1 else heldN g.clocks (heldG2 g k)
theorem heldN_bd : ∀(l:List Int) (k:Int),0≤k→ -1≤heldN l k∧heldN l k≤k+l.length
 | [],k,h=>by simp [heldN];omega
 | x::r,k,h=>by
   have:=heldN_bd r (k+1) (by omega)
   rw [heldN,List.length_cons]
   split<;>omega
theorem heldW_bd : ∀(l:List (List UInt8)) (k:Int),0≤k→ -1≤heldW l k∧heldW l k≤k+l.length
 | [],k,h=>by simp [heldW];omega
 | x::r,k,h=>by
   have:=heldW_bd r (k+1) (by omega)
   rw [heldW,List.length_cons]
   split<;>omega
theorem marksN_cons (k:Int) (n:Nat):marksN k (n+1)=k::marksN (k+1) n:=by
 unfold marksN
 rw [List.range_succ_eq_map,List.map_cons,List.map_map]
 congr 1
 ·show k+((0:Nat):Int)=k;omega
 ·refine List.map_congr_left fun i _=>?_
  show k+((i+1:Nat):Int)=k+1+i
  omega
theorem marksW_cons (k:Int) (n:Nat):marksW k (n+1)=markI k::marksW (k+1) n:=by
 unfold marksW
 rw [List.range_succ_eq_map,List.map_cons,List.map_map]
 congr 1
 ·show markI (k+((0:Nat):Int))=markI k
  congr 1;omega
 ·refine List.map_congr_left fun i _=>?_
  show markI (k+((i+1:Nat):Int))=markI (k+1+i)
  congr 1;omega
theorem held_marksN : ∀(n:Nat) (k:Int),heldN (marksN k n) k=k+n
 | 0,k=>by simp [marksN,heldN]
 | n+1,k=>by rw [marksN_cons,heldN,if_pos rfl,held_marksN n];omega
theorem held_marksW : ∀(n:Nat) (k:Int),heldW (marksW k n) k=k+n
 | 0,k=>by simp [marksW,heldW]
 | n+1,k=>by rw [marksW_cons,heldW,if_pos rfl,held_marksW n];omega
theorem heldN_mark (k:Int) (l:List Int):heldN (markN k l) k=endN k l:=held_marksN _ _
theorem heldW_mark (k:Int) (l:List (List UInt8)):heldW (markW k l) k=endW k l:=held_marksW _ _
theorem endN_nn {k:Int} (h:0≤k) (l:List Int):0≤endN k l:=by unfold endN;omega
theorem endW_nn {k:Int} (h:0≤k) (l:List (List UInt8)):0≤endW k l:=by unfold endW;omega
theorem held_mark {k:Int} (h:0≤k) (g:Gm):heldGm (markGm k g) k=endGm k g∧0≤endGm k g:=by
 have a1:=endN_nn h g.ts.values
 have a2:=endN_nn a1 g.ts.counts
 have a3:=endW_nn a2 g.lex
 have a4:=endW_nn a3 g.racks
 have a5:=endN_nn a4 g.scores
 have a6:=endN_nn a5 g.clocks
 have e1:heldTs (gSu (markGm k g)).ts k=endTs k g.ts:=by
  show (if heldN (markN k g.ts.values) k<0 then -1 else heldN (markN (endN k g.ts.values) g.ts.counts) (heldN (markN k g.ts.values) k))=_
  rw [heldN_mark,if_neg (by omega),heldN_mark];rfl
 have e2:heldSu (gSu (markGm k g)) k=endSu k (gSu g):=by
  unfold heldSu
  rw [e1]
  show (if endTs k g.ts<0 then -1 else heldW (markW (endTs k g.ts) g.lex) (endTs k g.ts))=_
  rw [heldW_mark,if_neg (by show ¬endN (endN k g.ts.values) g.ts.counts<0;omega)];rfl
 have e3:heldG1 (markGm k g) k=endG1 k g:=by
  unfold heldG1
  rw [e2]
  show (if endSu k (gSu g)<0 then -1 else heldW (markW (endSu k (gSu g)) g.racks) (endSu k (gSu g)))=_
  rw [heldW_mark,if_neg (by show ¬endW (endN (endN k g.ts.values) g.ts.counts) g.lex<0;omega)];rfl
 have e4:heldG2 (markGm k g) k=endG2 k g:=by
  unfold heldG2
  rw [e3]
  show (if endG1 k g<0 then -1 else heldN (markN (endG1 k g) g.scores) (endG1 k g))=_
  rw [heldN_mark,if_neg (by show ¬endW (endW (endN (endN k g.ts.values) g.ts.counts) g.lex) g.racks<0;omega)];rfl
 refine⟨?_,a6⟩
 unfold heldGm
 rw [e4]
 show (if endG2 k g<0 then -1 else heldN (markN (endG2 k g) g.clocks) (endG2 k g))=_
 rw [heldN_mark,if_neg (by show ¬endN (endW (endW (endN (endN k g.ts.values) g.ts.counts) g.lex) g.racks) g.scores<0;omega)];rfl
theorem held_m1 {x:Int} (h : -1≤x) (h2:std.ltI x 0=true) : -1=x:=by have:=lt_of h2;omega
theorem heldTs_bd {t:TS} {k:Int} (h:TsN t) (h0:0≤k) : -1≤heldTs t k∧heldTs t k≤k+2147483648:=by
 have:=h.v;have:=h.c;have:=heldN_bd t.values k h0
 unfold heldTs
 split
 ·omega
 ·have:=heldN_bd t.counts (heldN t.values k) (by omega);omega
theorem heldSu_bd {u:Su} {k:Int} (h:SuN u) (h0:0≤k) : -1≤heldSu u k∧heldSu u k≤k+3221225472:=by
 have:=h.l;have:=heldTs_bd h.ts h0
 unfold heldSu
 split
 ·omega
 ·have:=heldW_bd u.lex (heldTs u.ts k) (by omega);omega
section
variable {g:Gm} {k:Int}
theorem h_n1 (h:heldSu (gSu g) k<0):heldG1 g k= -1:=if_pos h
theorem h_y1 (h:0≤heldSu (gSu g) k):heldG1 g k=heldW g.racks (heldSu (gSu g) k):=if_neg (by omega)
theorem h_n2 (h:heldG1 g k= -1):heldG2 g k= -1:=if_pos (by omega)
theorem h_y2 (h:0≤heldG1 g k):heldG2 g k=heldN g.scores (heldG1 g k):=if_neg (by omega)
theorem h_n (h:heldG2 g k= -1):heldGm g k= -1:=if_pos (by omega)
theorem h_y (h:0≤heldG2 g k):heldGm g k=heldN g.clocks (heldG2 g k):=if_neg (by omega)
end
def fromN (l:List Int) (i k:Int):Int:=heldN (l.drop i.toNat) k
def fromW (l:List (List UInt8)) (i k:Int):Int:=heldW (l.drop i.toNat) k
def sp_l_heldInt64S (p:Pr):FSpec:=fsp (ac aN (a1 aI)) (fun (l,k)=>KnP k l) (fun (l,k)=>.i .i64 (heldN l k))
theorem ok_l_heldInt64S:FOk Tryz.prog 124 (sp_l_heldInt64S std):=by
 refine FOk.go (c:=cx std [] [] 0) (cx_ok .nil .nil) mixed Tryz.func124 rfl rfl rfl (by kernel_rfl) ?_
 rintro ⟨l,k⟩ hp
 dsimp only at hp
 refine⟨rfl,?_⟩
 obtain⟨H,hH⟩ : ∃H:Hd (Int×Int),H=⟨fun (m,i)=>0≤i∧i≤l.length∧m=k+i∧heldN l k=fromN l i m,fun (m,i)=>(l.length-i).toNat,(· < ·)⟩:=⟨_,rfl⟩
 have hl : ∀m n,H.lt m n→m<n:=by subst hH;exact fun _ _ h=>h
 generalize hP:std=p,hB0:heldN=B0,hB1:fromN=B1
 cbv
 repeat' first
  | (refine fun (_:Unit)=>?_;cbv)
  | (refine Or.inr ⟨6,[],[.s 1 (.i .i64),.s 5 (.i .i64)],[],[],H,rfl,hl,?_,fun ((m,i):Int×Int) hk=>?_⟩<;>cbv)
  | (refine aI2 (fun h=>?_) (fun h=>?_)<;>cbv)
  | (refine aI2 ?_ ?_)
 all_goals subst hP hB0 hB1 hH
 all_goals clear hl
 all_goals try dsimp only at hk
 all_goals try dsimp only
 all_goals try exact fin
 ·exact⟨Int.le_refl 0,Int.natCast_nonneg _,by omega,rfl⟩
 all_goals obtain⟨q0,q1,rfl,q3⟩:=hk
 all_goals have q1:i≤(l.length:Int):=q1
 all_goals have b1:=hp.lo
 all_goals have b2:=hp.hi
 all_goals have b3:=hp.n
 all_goals try (have hlt:i<(l.length:Int):=lt_of ‹_›)
 ·rw [q3,fromN,dc q0 hlt 0,heldN,if_neg (beq_eq_false_iff_ne.1 (show (l.getD i.toNat 0==k+i)=false from h))]
 ·exact in64 (by show _≤k+i+1∧k+i+1≤_;omega)
 ·exact in64 (by show _≤i+1∧i+1≤_;omega)
 ·refine⟨by show 0≤i+1;omega,by show i+1≤(l.length:Int);omega,by show k+i+1=k+(i+1);omega,?_⟩
  rw [q3]
  show fromN l i (k+i)=fromN l (i+1) (k+i+1)
  rw [fromN,dc q0 hlt 0,heldN,if_pos (beq_iff_eq.1 (show (l.getD i.toNat 0==k+i)=true from h))];rfl
 ·rw [q3,fromN,dn (ge_of h)];rfl
def sp_l_heldStringS (p:Pr):FSpec:=fsp (ac aW (a1 aI)) (fun (l,k)=>KnP k l) (fun (l,k)=>.i .i64 (heldW l k))
theorem ok_l_heldStringS:FOk Tryz.prog 123 (sp_l_heldStringS std):=by
 refine FOk.go (c:=cx std [(187,sp_l_markText std)] [] 0) (cx_ok (.cons ok_l_markText .nil) .nil) mixed Tryz.func123 rfl rfl rfl (by kernel_rfl) ?_
 rintro ⟨l,k⟩ hp
 dsimp only at hp
 refine⟨rfl,?_⟩
 unfold sp_l_markText
 obtain⟨H,hH⟩ : ∃H:Hd (Int×Int),H=⟨fun (m,i)=>0≤i∧i≤l.length∧m=k+i∧heldW l k=fromW l i m,fun (m,i)=>(l.length-i).toNat,(· < ·)⟩:=⟨_,rfl⟩
 have hl : ∀m n,H.lt m n→m<n:=by subst hH;exact fun _ _ h=>h
 generalize hP:std=p,hB0:heldW=B0,hB1:markI=B1,hB2:fromW=B2
 cbv
 repeat' first
  | (refine fun (_:Unit)=>?_;cbv)
  | (refine Or.inr ⟨6,[],[.s 1 (.i .i64),.s 5 (.i .i64)],[],[],H,rfl,hl,?_,fun ((m,i):Int×Int) hk=>?_⟩<;>cbv)
  | (refine aI2 (fun h=>?_) (fun h=>?_)<;>cbv)
  | (refine aI2 ?_ ?_)
 all_goals subst hP hB0 hB1 hB2 hH
 all_goals clear hl
 all_goals try dsimp only at hk
 all_goals try dsimp only
 all_goals try exact fin
 ·exact⟨Int.le_refl 0,Int.natCast_nonneg _,by omega,rfl⟩
 all_goals obtain⟨q0,q1,rfl,q3⟩:=hk
 all_goals have q1:i≤(l.length:Int):=q1
 all_goals have b1:=hp.lo
 all_goals have b2:=hp.hi
 all_goals have b3:=hp.n
 all_goals try (have hlt:i<(l.length:Int):=lt_of ‹_›)
 ·show 0≤k+i
  omega
 ·show k+i≤1152921504606846976
  omega
 ·rw [q3,fromW,dc q0 hlt [],heldW,if_neg (beq_eq_false_iff_ne.1 (show (l.getD i.toNat []==markI (k+i))=false from h))]
 ·exact in64 (by show _≤k+i+1∧k+i+1≤_;omega)
 ·exact in64 (by show _≤i+1∧i+1≤_;omega)
 ·refine⟨by show 0≤i+1;omega,by show i+1≤(l.length:Int);omega,by show k+i+1=k+(i+1);omega,?_⟩
  rw [q3]
  show fromW l i (k+i)=fromW l (i+1) (k+i+1)
  rw [fromW,dc q0 hlt [],heldW,if_pos (beq_iff_eq.1 (show (l.getD i.toNat []==markI (k+i))=true from h))];rfl
 ·rw [q3,fromW,dn (ge_of h)];rfl
def sp_l_heldTileSet (p:Pr):FSpec:=fsp (ac (aA aTs) (a1 aI)) (fun (t,k)=>KnT k t) (fun (t,k)=>.i .i64 (heldTs t k))
theorem ok_l_heldTileSet:FOk Tryz.prog 188 (sp_l_heldTileSet std):=by
 refine FOk.go (c:=cx std [(124,sp_l_heldInt64S std)] [] 0) (cx_ok (.cons ok_l_heldInt64S .nil) .nil) mixed Tryz.func188 rfl rfl rfl (by kernel_rfl) ?_
 rintro ⟨t,k⟩ hp
 dsimp only at hp
 refine⟨rfl,?_⟩
 unfold sp_l_heldInt64S
 generalize hP:std=p,hB0:heldTs=B0,hB1:heldN=B1
 cbv
 repeat' first
  | (refine fun (_:Unit)=>?_;cbv)
  | (refine aI2 (fun h=>?_) (fun h=>?_)<;>cbv)
  | (refine aI2 ?_ ?_)
  | (refine Or.inl (fun (_:Unit)=>?_);cbv)
 all_goals subst hP hB0 hB1
 all_goals try exact fin
 all_goals have b1:=hp.lo
 all_goals have b2:=hp.hi
 all_goals have b3:=hp.n.v
 all_goals have b5:=heldN_bd t.values k b1
 ·exact⟨b1,by omega,b3⟩
 ·rw [heldTs,if_pos (lt_of h)]
 ·exact⟨ge_of h,by omega,hp.n.c⟩
 all_goals have b6:0≤heldN t.values k:=ge_of ‹_›
 all_goals rw [heldTs,if_neg (by omega)]
 ·exact held_m1 (heldN_bd _ _ b6).1 h
def sp_l_heldLexicon (p:Pr):FSpec:=fsp (ac (aA aLex) (a1 aI)) (fun (l,k)=>KnP k l) (fun (l,k)=>.i .i64 (heldW l k))
theorem ok_l_heldLexicon:FOk Tryz.prog 189 (sp_l_heldLexicon std):=by
 refine FOk.go (c:=cx std [(123,sp_l_heldStringS std)] [] 0) (cx_ok (.cons ok_l_heldStringS .nil) .nil) mixed Tryz.func189 rfl rfl rfl (by kernel_rfl) ?_
 rintro ⟨l,k⟩ hp
 dsimp only at hp
 refine⟨rfl,?_⟩
 unfold sp_l_heldStringS
 generalize hP:std=p,hB0:heldW=B0
 cbv
 repeat' first
  | (refine fun (_:Unit)=>?_;cbv)
  | (refine aI2 (fun h=>?_) (fun h=>?_)<;>cbv)
  | (refine aI2 ?_ ?_)
  | (refine Or.inl (fun (_:Unit)=>?_);cbv)
 all_goals subst hP hB0
 all_goals try exact fin
 ·exact held_m1 (heldW_bd l k hp.lo).1 h
def sp_l_heldSetup (p:Pr):FSpec:=fsp (ac (aA aSu) (a1 aI)) (fun (u,k)=>KnS k u) (fun (u,k)=>.i .i64 (heldSu u k))
theorem ok_l_heldSetup:FOk Tryz.prog 122 (sp_l_heldSetup std):=by
 refine FOk.go (c:=cx std [(188,sp_l_heldTileSet std),(189,sp_l_heldLexicon std)] [] 0) (cx_ok (.cons ok_l_heldTileSet (.cons ok_l_heldLexicon .nil)) .nil) mixed Tryz.func122 rfl rfl rfl (by kernel_rfl) ?_
 rintro ⟨u,k⟩ hp
 dsimp only at hp
 refine⟨rfl,?_⟩
 unfold sp_l_heldTileSet sp_l_heldLexicon
 generalize hP:std=p,hB0:heldSu=B0,hB1:heldTs=B1,hB2:heldW=B2
 cbv
 repeat' first
  | (refine fun (_:Unit)=>?_;cbv)
  | (refine aI2 (fun h=>?_) (fun h=>?_)<;>cbv)
  | (refine aI2 ?_ ?_)
  | (refine Or.inl (fun (_:Unit)=>?_);cbv)
 all_goals subst hP hB0 hB1 hB2
 all_goals try exact fin
 all_goals (try simp only [eta_ts,eta_bd,eta_su] at *)
 all_goals have b1:=hp.lo
 all_goals have b2:=hp.hi
 all_goals have b5:=heldTs_bd hp.n.ts b1
 ·exact⟨b1,by omega,hp.n.ts⟩
 ·rw [heldSu,if_pos (lt_of h)]
 ·exact⟨ge_of h,by omega,hp.n.l⟩
 all_goals have b6:0≤heldTs u.ts k:=ge_of ‹_›
 all_goals rw [heldSu,if_neg (by omega)]
 ·exact held_m1 (heldW_bd _ _ b6).1 h
def sp_l_heldGame (p:Pr):FSpec:=fsp (ac (aA aGm) (a1 aI)) (fun (g,k)=>KnG k g) (fun (g,k)=>.i .i64 (heldGm g k))
theorem ok_l_heldGame:FOk Tryz.prog 49 (sp_l_heldGame std):=by
 refine FOk.go (c:=cx std [(122,sp_l_heldSetup std),(123,sp_l_heldStringS std),(124,sp_l_heldInt64S std)] [] 0) (cx_ok (.cons ok_l_heldSetup (.cons ok_l_heldStringS (.cons ok_l_heldInt64S .nil))) .nil) mixed Tryz.func49 rfl rfl rfl (by kernel_rfl) ?_
 rintro ⟨g,k⟩ hp
 dsimp only at hp
 refine⟨rfl,?_⟩
 unfold sp_l_heldSetup sp_l_heldStringS sp_l_heldInt64S
 generalize hP:std=p,hB0:heldGm=B0,hB1:heldSu=B1,hB2:heldW=B2,hB3:heldN=B3
 cbv
 repeat' first
  | (refine fun (_:Unit)=>?_;cbv)
  | (refine aI2 (fun h=>?_) (fun h=>?_)<;>cbv)
  | (refine aI2 ?_ ?_)
  | (refine Or.inl (fun (_:Unit)=>?_);cbv)
 all_goals subst hP hB0 hB1 hB2 hB3
 all_goals try exact fin
 all_goals (try simp only [eta_ts,eta_bd,eta_su] at *)
 all_goals have b1:=hp.lo
 all_goals have b2:=hp.hi
 all_goals have b5:=heldSu_bd hp.n.su b1
 ·exact⟨b1,by omega,hp.n.su⟩
 ·exact (h_n (h_n2 (h_n1 (lt_of h)))).symm
 ·exact⟨ge_of h,by omega,hp.n.r⟩
 all_goals have b6:0≤heldSu (gSu g) k:=ge_of ‹_›
 all_goals have b7:=heldW_bd g.racks _ b6
 all_goals have c1:=hp.n.r
 all_goals have e1:=h_y1 b6
 ·exact (h_n (h_n2 (e1.trans (held_m1 b7.1 h).symm))).symm
 ·exact⟨ge_of h,by omega,hp.n.s⟩
 all_goals have b8:0≤heldW g.racks (heldSu (gSu g) k):=ge_of ‹_›
 all_goals have b9:=heldN_bd g.scores _ b8
 all_goals have c2:=hp.n.s
 all_goals have e2:=h_y2 (g:=g) (k:=k) (by rw [e1];exact b8)
 all_goals rw [e1] at e2
 ·exact (h_n (e2.trans (held_m1 b9.1 h).symm)).symm
 ·exact⟨ge_of h,by omega,hp.n.k⟩
 all_goals have d1:0≤heldN g.scores (heldW g.racks (heldSu (gSu g) k)):=ge_of ‹_›
 all_goals have e3:=h_y (g:=g) (k:=k) (by rw [e2];exact d1)
 all_goals rw [e3,e2]
 ·exact held_m1 (heldN_bd _ _ d1).1 h
end Ax
namespace Ax
set_option maxRecDepth 100000
set_option maxHeartbeats 20000000
theorem eta_gm (g:Gm):Gm.mk g.ts g.lex g.bd0 g.secs g.rule g.bd g.bag g.racks g.scores g.clocks g.player g.zeros g.last g.over=g:=rfl
theorem markGm_n {g:Gm} {k:Int} (h:GmN g):GmN (markGm k g):=by
 obtain⟨⟨⟨h1,h2⟩,h3⟩,h4,h5,h6⟩:=h
 exact⟨⟨⟨by show ((marksN _ _).length : Int)≤_;rw [marksN_len];exact h1,by show ((marksN _ _).length : Int)≤_;rw [marksN_len];exact h2⟩,by show ((marksW _ _).length : Int)≤_;rw [marksW_len];exact h3⟩,
  by show ((marksW _ _).length : Int)≤_;rw [marksW_len];exact h4,by show ((marksN _ _).length : Int)≤_;rw [marksN_len];exact h5,by show ((marksN _ _).length : Int)≤_;rw [marksN_len];exact h6⟩
theorem la (x:Gm) (h:std.ltI (endGm 1 x) 0=true):False:=by
 have:=lt_of h
 have:=(held_mark (k:=1) (by decide) x).2
 omega
theorem lb (x:Gm) (h:std.ltI (heldGm (markGm 1 x) 1) 0=true):False:=by
 rw [(held_mark (k:=1) (by decide) x).1] at h
 exact la x h
theorem ld (x:Gm) (h:std.eqI (heldGm (markGm 1 x) 1) (endGm 1 x)=false):False:=by
 rw [(held_mark (k:=1) (by decide) x).1] at h
 exact eqI_f h rfl
end Ax
namespace Ax
set_option maxRecDepth 100000
set_option maxHeartbeats 20000000
structure RzP (u:Su) (r:Rcd):Prop where
 q:RyP u r
 z:ruC (bgG u r) r=0
structure RwP (u:Su) (r:Rcd):Prop where
 q:RyP u r
 z : ¬ruC (bgG u r) r=0
theorem rz1 {u:Su} {r:Rcd} (h:RzP u r) (h2:std.leI 0 (rpI (bgG u r) r)=true):False:=by
 have e:rpI (bgG u r) r= -1:=if_pos h.z
 rw [e] at h2;cases h2
theorem rw1 {u:Su} {r:Rcd} (h:RwP u r) (h2:std.leI 0 (rpI (bgG u r) r)=false):False:=by
 have e:rpI (bgG u r) r=((ruL (bgG u r) r).length : Int):=if_neg h.z
 rw [e] at h2
 have h3 : ¬(0:Int)≤((ruL (bgG u r) r).length : Int):=of_decide_eq_false h2
 omega
theorem rn2 {u:Su} {r:Rcd} (h:RnP u r) (h2:std.eqI (bgC u r) 0=true):False:=h.c (eqI_t h2)
end Ax
namespace Ax
open Go.RowKit
section
variable {P:Program} {c:Cx} {w w0:World} {e:Env} {fz:Nat→Prop} {M:Root} {st:AS} {a:Act} {f:FuncId}
theorem rnO_id (o:Ob):o.rn id=o:=by
 cases o with
 | cells l ty=>show Ob.cells (rnL id l) ty=_;rw [rnL_id]
 | _=>rfl
def dpK (K:List Nat) (h:AH) (v:PV):PV:=if v.idIn K then v else deep h 12 v
def dpsK (K:List Nat) (h:AH):List PV→List PV
 | []=>[]
 | v::r=>dpK K h v::dpsK K h r
theorem dpsK_map (K:List Nat) (h:AH) : ∀l:List PV,dpsK K h l=l.map (dpK K h)
 | []=>rfl
 | v::r=>by rw [dpsK,dpsK_map K h r];rfl
def frzK (K:List Nat) (st:AS):Bool:=idInL K (dpsK K (cutN K st.h) st.tm)&&(cut K st.h).all fun q=>q.2.idIn K&&!q.2.gn
theorem SR.frozenK (h:SR w0 fz M st a w e) {K:List Nat} (hn:M.n=0) (hM : ∀b,¬M b) (hi:frzK K st=true) : ∃e',SR w0 fz M ⟨dpsK K (cutN K st.h) st.tm,cut K st.h,st.nx⟩ a w e':=by
 have hsee:=h.sees
 unfold frzK at hi
 rw [Bool.and_eq_true,List.all_eq_true] at hi
 obtain⟨hi,hkeep⟩:=hi
 have hmem : ∀id o,(cut K st.h).get id=some o→id∈K∧st.h.get id=some o∧o.idIn K=true∧o.gn=false:=fun id o ho=>by
  obtain⟨h1,h2⟩:=get_cutA ho
  have h3:=hkeep _ (get_mem ho)
  rw [Bool.and_eq_true] at h3
  exact⟨h1,h2,h3.1,by simpa using h3.2⟩
 obtain⟨fzE,hfE⟩ : ∃fzE:Nat→Prop,fzE=fun b=>e.fz b∨(w0.heap.size≤b∧b<w.heap.size∧∀k∈K,e.lv k→¬e.blk k b):=⟨_,rfl⟩
 have hB : ∀b,fzE b↔e.fz b∨(w0.heap.size≤b∧b<w.heap.size∧∀k∈K,e.lv k→¬e.blk k b):=fun b=>by rw [hfE]
 have hle:e.Le { e with fz:=fzE }:=⟨fun _ h=>h,fun _ _=>rfl,fun _ _=>rfl,fun _ _=>rfl,fun b hb=>(hB b).2 (.inl hb)⟩
 have hsame:Same e.fz w w:=fun _ _=>rfl
 have hseeN:Sees w e (cutN K st.h):=⟨fun id o' ho'=>hsee.ob id o' (get_cutN ho').2,hsee.fz,hsee.dis⟩
 have hF:Frz w e (cutN K st.h) { e with fz:=fzE }:=⟨hle,fun id o b ho hg hb=>(hB b).2 (.inr (by
  obtain⟨hid,ho⟩:=get_cutN ho
  have hlv:=(h.ob id o ho).2.2 hg
  obtain⟨h1,h2⟩:=h.bd id b hlv hb
  exact⟨h1.resolve_right (hM b),h2,fun k hk hkl hkb=>hid (by rw [h.dis id k b hlv hkl hb hkb];exact hk)⟩))⟩
 obtain⟨e',he'⟩ : ∃e':Env,e'=⟨e.adr,e.cap,e.len,fzE,fun k=>k∈K∧e.on k,fun k=>k∈K∧e.lv k⟩:=⟨_,rfl⟩
 have hrn:Rn id K { e with fz:=fzE } e':=by
  subst he'
  exact⟨fun k hk h=>⟨hk,h⟩,fun _=>rfl,fun _=>rfl,fun _=>rfl,rfl⟩
 have f1:e'.fz=fzE:=by rw [he']
 have f2 : ∀k,e'.on k↔k∈K∧e.on k:=fun k=>by rw [he']
 have f3 : ∀k,e'.lv k↔k∈K∧e.lv k:=fun k=>by rw [he']
 have f4 : ∀k b,e'.blk k b↔e.blk k b:=fun k b=>by rw [he'];exact Iff.rfl
 refine⟨e',?_,fun t p hp=>?_,fun id o ho=>?_,fun k hk=>(f2 k).2 ⟨((f3 k).1 hk).1,h.lo k ((f3 k).1 hk).2⟩,fun k hk=>h.lt k ((f2 k).1 hk).2,fun k k' b hk hk' hb hb'=>h.dis k k' b ((f3 k).1 hk).2 ((f3 k').1 hk').2 ((f4 k b).1 hb) ((f4 k' b).1 hb'),fun k b hk hb=>h.bd k b ((f3 k).1 hk).2 ((f4 k b).1 hb),
  ⟨fun b hb=>by rw [f1];exact (hB b).2 (.inl (h.ez.sub b hb)),fun b hb=>by
    rw [f1,hB] at hb
    exact hb.elim (h.ez.sup b) fun q=>.inr ⟨q.1,q.2.1⟩,fun k b hk hb hf=>by
    rw [f1,hB] at hf
    obtain⟨hkK,hkl⟩:=(f3 k).1 hk
    rcases hf with hf | hf
    ·exact h.ez.nf k b hkl ((f4 k b).1 hb) hf
    ·exact hf.2.2 k hkK hkl ((f4 k b).1 hb)⟩,h.fzb,h.low,fun k hk=>absurd hk (by rw [hn];exact Nat.not_lt_zero k),h.defers⟩
 ·show a.tmps.size=(dpsK K (cutN K st.h) st.tm).length
  rw [dpsK_map,List.length_map]
  exact h.size
 ·have hq:=idIn_get hi hp
  have hp:(dpsK K (cutN K st.h) st.tm)[t]? =some p:=hp
  rw [dpsK_map,List.getElem?_map,Option.map_eq_some_iff] at hp
  obtain⟨q,h1,rfl⟩:=hp
  refine R_rn hrn _ _ hq ?_
  rw [rn_id]
  unfold dpK
  split
  ·exact R_mono hsame hle q _ (h.tm t q h1)
  ·exact deep_R hseeN hF 12 q _ (h.tm t q h1)
 ·obtain⟨hk,ho,hin,hg⟩:=hmem id o ho
  obtain⟨a1,a2,a3⟩:=h.ob id o ho
  have h5:OR w { e with fz:=fzE } id o:=OR_mono hsame hle a2 (fun b hb=>⟨fun hf=>((hB b).1 hf).elim (fun h=>h) fun q=>absurd hb (q.2.2 _ hk (a3 hg)),rfl⟩) a1
  exact⟨OR_rn hrn hin (by rw [rnO_id];exact h5),(f2 id).2 ⟨hk,a2⟩,fun _=>(f3 id).2 ⟨hk,a3 hg⟩⟩
def awpK (c:Cx) (K:List Nat) (Q:AEx→AS→Prop):Code→AS→Prop
 | .seq x y,st=>awp c x (fun z st'=>match z with
   | .normal =>frzK K st'=true∧awp c y Q ⟨dpsK K (cutN K st'.h) st'.tm,cut K st'.h,st'.nx⟩
   | z=>Q z st') st
 | _,_=>False
theorem FOk.goK (K:List Nat) {α:Type} {A:Args α} {pre:α→Prop} {v:α→PV} {eff:α→AH} {fn:Func} {body:Code} (hc:CxOk P c) (hm:P.follows .mixedOrders =true) (hf:P.funcs[f]? =some fn) (hb:fn.body=some body) (hn:(fn.name=="runtime.NumGoroutine")=false) (hn0:c.n0=0) (hck:codeOk body=true)
 (h : ∀a,pre a→(idInL [] (A.enc a)&&Nat.ble (A.enc a).length fn.ntmps)=true∧awpK c K (retQ c fn.results.toList ⟨[],v a,eff a⟩) body ⟨A.enc a++List.replicate (fn.ntmps-(A.enc a).length) .dead,[],0⟩):FOk P f (fsp A pre v eff):=by
 refine⟨⟨fn,hf,hn,by rw [hb];rfl⟩,fun args out hs hp w e0 vals hz hl=>?_⟩
 unfold fsp at hs
 split at hs
 case h_2=>cases hs
 rename_i a ha
 cases hs
 obtain⟨h1,h2⟩:=h a (hp _ (by simp))
 rw [A.ok _ _ ha] at hl
 rw [Bool.and_eq_true,Nat.ble_eq] at h1
 have hrn0:Rn id [] e0 { e0 with on:=fun _=>False,lv:=fun _=>False }:=⟨fun k hk=>absurd hk (by simp),fun _=>rfl,fun _=>rfl,fun _=>rfl,rfl⟩
 have hl0:Rs w { e0 with on:=fun _=>False,lv:=fun _=>False } (A.enc a) vals.toList:=Rs_rn hrn0 (A.enc a) _ h1.1 (by rw [rnL_id];exact hl)
 obtain⟨e,he⟩ : ∃e:Env,e={ e0 with on:=fun _=>False,lv:=fun _=>False }:=⟨_,rfl⟩
 rw [←he] at hl0 ⊢
 have hz:FzW w e.fz:=by subst he;exact hz
 have hon : ∀k,¬e.on k:=by subst he;exact fun k h=>h
 have hlv : ∀k,¬e.lv k:=by subst he;exact fun k h=>h
 have hlen:=Rs_length hl0
 obtain⟨M,hM⟩ : ∃M:Root,M=⟨fun b=>∃k,e.on k∧e.blk k b,0,e,[]⟩:=⟨_,rfl⟩
 have hMb : ∀b,¬M b:=fun b=>by subst hM;rintro ⟨k,hk, -⟩;exact hon k hk
 have hMn:M.n=c.n0:=by subst hM;exact hn0.symm
 have hsr:SR w e.fz M ⟨A.enc a++List.replicate (fn.ntmps-(A.enc a).length) .dead,[],0⟩ { tmps:=vals++Array.replicate (fn.ntmps-vals.size) undef,defers:=[] } w e:=by
  have hsz:vals.size=(A.enc a).length :=by rw [←hlen];simp
  refine⟨by simp [hsz],fun t p hp=>tm_args (by simpa using hl0) hp,fun id o h=>by simp [AH.get] at h,fun k hk=>(hlv k hk).elim,fun k hk=>(hon k hk).elim,fun k k' b hk=>(hlv k hk).elim,fun k b hk=>(hlv k hk).elim,⟨fun _ h=>h,fun _ h=>.inl h,fun k b hk=>(hlv k hk).elim⟩,⟨fun b hb=>⟨hz.lt b hb,hMb b⟩,hz.gl⟩,Chg.refl _ _,by subst hM;exact fun k _ hk=>⟨hk,rfl,rfl,rfl⟩,by subst hM;rfl⟩
 have hon' : ∀k,e.on k↔k<([]:AH).length :=fun k=>⟨fun h=>(hon k h).elim,fun h=>absurd h (Nat.not_lt_zero k)⟩
 have hlv' : ∀k,e.lv k↔k<([]:AH).length :=fun k=>⟨fun h=>(hlv k h).elim,fun h=>absurd h (Nat.not_lt_zero k)⟩
 have fin : ∀st1 e1 a1 w1,SR w e.fz M st1 a1 w1 e1→retQ c fn.results.toList ⟨[],v a,eff a⟩ .ret st1→a1.defers=[]∧∃u,(results fn a1.tmps).run P w1=.ok u w1∧∃u' e',Ending.returned u=.returned u'∧Post w w1 e e' 0 ⟨[pre a],v a,eff a⟩ u':=fun st1 e1 a1 w1 g1 g2=>by
  have g2:retQ c fn.results.toList ⟨[pre a],v a,eff a⟩ .ret st1:=g2
  obtain⟨u,e2,g3,g4⟩:=ret_post (D:=[]) hc (H:=[]) (by rw [hn0];rfl) hon' hlv' hM g1 g2
  exact⟨by have:=g1.defers;subst hM;exact this,u,g3,u,e2,rfl,g4⟩
 cases body with
 | seq x y=>
   unfold codeOk at hck
   rw [Bool.and_eq_true] at hck
   refine calls_of_wp hf hb (wp_seq (wp_mono (awp_ok hc hm hMn x hck.1 _ _ _ w _ h2 hsr) ?_))
   intro x' a' w' hq
   cases x' with
   | normal=>
     obtain⟨st',e',g1,hi,g2⟩:=hq
     obtain⟨e2,hs2⟩:=g1.frozenK (K:=K) (by rw [hMn,hn0]) hMb hi
     refine wp_mono (awp_ok hc hm hMn y hck.2 _ _ _ w' _ g2 hs2) ?_
     intro x2 a2 w2 hq2
     cases x2 with
     | normal=>obtain⟨st3,e3,g3,g4⟩:=hq2;exact fin st3 e3 a2 w2 g3 g4
     | ret=>obtain⟨st3,e3,g3,g4⟩:=hq2;exact fin st3 e3 a2 w2 g3 g4
     | exit id=>obtain⟨st3,e3,g3,g4⟩:=hq2;exact g4.elim
     | goto l=>exact hq2.elim
     | panic ch=>exact hq2.elim
     | outgrown=>exact hq2.elim
   | ret=>obtain⟨st3,e3,g3,g4⟩:=hq;exact fin st3 e3 a' w' g3 g4
   | exit id=>obtain⟨st3,e3,g3,g4⟩:=hq;exact g4.elim
   | goto l=>exact hq.elim
   | panic ch=>exact hq.elim
   | outgrown=>exact hq.elim
 | _=>exact h2.elim
end
end Ax
end Go.Proofs.YtghmphmbpdiflaaGreatDoor
