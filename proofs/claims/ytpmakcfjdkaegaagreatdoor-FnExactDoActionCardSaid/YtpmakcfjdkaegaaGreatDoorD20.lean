/-
  The laws package: whether marks are held by rows, tile sets, games; Games of the spec package: clocks, changes, ends; Valid tile sets and setups, of the spec package.
  Conditions: as each part below says.
-/
import Derived.Test.YtpmakcfjdkaegaaGreatDoorD19
import Derived.Test.YtpmakcfjdkaegaaGreatDoorD17
set_option linter.unusedSimpArgs false
set_option linter.unusedVariables false
namespace Go.Proofs.YtpmakcfjdkaegaaGreatDoor
namespace Ax
set_option maxRecDepth 100000
set_option maxHeartbeats 2000000
def heldN:List Int→Int→Int
 | [],k=>k
 | x::r,k=>if x=k then heldN r (k+1) else -1
def heldW:List (List UInt8)→Int→Int
 | [],k=>k
 | x::r,k=>if x=markI k then heldW r (k+1) else -1
def heldTs (t:TS) (k:Int):Int:=if heldN t.values k<0 then -1 else heldN t.counts (heldN t.values k)
def heldSu (u:Su) (k:Int):Int:=if heldTs u.ts k<0 then -1 else heldW u.lex (heldTs u.ts k)
def heldG1 (g:Gm) (k:Int):Int:=if heldSu (gSu g) k<0 then -1 else heldW g.racks (heldSu (gSu g) k)
def heldG2 (g:Gm) (k:Int):Int:=if heldG1 g k<0 then -1 else heldN g.scores (heldG1 g k)
def heldGm (g:Gm) (k:Int):Int:=if heldG2 g k<0 then -1 else heldN g.clocks (heldG2 g k)
theorem heldN_bd : ∀(l:List Int) (k:Int),0≤k→ -1≤heldN l k∧heldN l k≤k+l.length
 | [],k,h=>by simp [heldN];omega
 | x::r,k,h=>by
   have:=heldN_bd r (k+1) (by omega)
   rw [heldN,List.length_cons]
   split<;>omega
theorem heldW_bd : ∀(l:List (List UInt8)) (k:Int),0≤k→ -1≤heldW l k∧heldW l k≤k+l.length
 | [],k,h=>by simp [heldW];omega
 | x::r,k,h=>by
   have:=heldW_bd r (k+1) (by omega)
   rw [heldW,List.length_cons]
   split<;>omega
theorem marksN_cons (k:Int) (n:Nat):marksN k (n+1)=k::marksN (k+1) n:=by
 unfold marksN
 rw [List.range_succ_eq_map,List.map_cons,List.map_map]
 congr 1
 ·show k+((0:Nat):Int)=k;omega
 ·refine List.map_congr_left fun i _=>?_
  show k+((i+1:Nat):Int)=k+1+i
  omega
theorem marksW_cons (k:Int) (n:Nat):marksW k (n+1)=markI k::marksW (k+1) n:=by
 unfold marksW
 rw [List.range_succ_eq_map,List.map_cons,List.map_map]
 congr 1
 ·show markI (k+((0:Nat):Int))=markI k
  congr 1;omega
 ·refine List.map_congr_left fun i _=>?_
  show markI (k+((i+1:Nat):Int))=markI (k+1+i)
  congr 1;omega
theorem held_marksN : ∀(n:Nat) (k:Int),heldN (marksN k n) k=k+n
 | 0,k=>by simp [marksN,heldN]
 | n+1,k=>by rw [marksN_cons,heldN,if_pos rfl,held_marksN n];omega
theorem held_marksW : ∀(n:Nat) (k:Int),heldW (marksW k n) k=k+n
 | 0,k=>by simp [marksW,heldW]
 | n+1,k=>by rw [marksW_cons,heldW,if_pos rfl,held_marksW n];omega
theorem heldN_mark (k:Int) (l:List Int):heldN (markN k l) k=endN k l:=held_marksN _ _
theorem heldW_mark (k:Int) (l:List (List UInt8)):heldW (markW k l) k=endW k l:=held_marksW _ _
theorem endN_nn {k:Int} (h:0≤k) (l:List Int):0≤endN k l:=by unfold endN;omega
theorem endW_nn {k:Int} (h:0≤k) (l:List (List UInt8)):0≤endW k l:=by unfold endW;omega
theorem held_mark {k:Int} (h:0≤k) (g:Gm):heldGm (markGm k g) k=endGm k g∧0≤endGm k g:=by
 have a1:=endN_nn h g.ts.values
 have a2:=endN_nn a1 g.ts.counts
 have a3:=endW_nn a2 g.lex
 have a4:=endW_nn a3 g.racks
 have a5:=endN_nn a4 g.scores
 have a6:=endN_nn a5 g.clocks
 have e1:heldTs (gSu (markGm k g)).ts k=endTs k g.ts:=by
  show (if heldN (markN k g.ts.values) k<0 then -1 else heldN (markN (endN k g.ts.values) g.ts.counts) (heldN (markN k g.ts.values) k))=_
  rw [heldN_mark,if_neg (by omega),heldN_mark];rfl
 have e2:heldSu (gSu (markGm k g)) k=endSu k (gSu g):=by
  unfold heldSu
  rw [e1]
  show (if endTs k g.ts<0 then -1 else heldW (markW (endTs k g.ts) g.lex) (endTs k g.ts))=_
  rw [heldW_mark,if_neg (by show ¬endN (endN k g.ts.values) g.ts.counts<0;omega)];rfl
 have e3:heldG1 (markGm k g) k=endG1 k g:=by
  unfold heldG1
  rw [e2]
  show (if endSu k (gSu g)<0 then -1 else heldW (markW (endSu k (gSu g)) g.racks) (endSu k (gSu g)))=_
  rw [heldW_mark,if_neg (by show ¬endW (endN (endN k g.ts.values) g.ts.counts) g.lex<0;omega)];rfl
 have e4:heldG2 (markGm k g) k=endG2 k g:=by
  unfold heldG2
  rw [e3]
  show (if endG1 k g<0 then -1 else heldN (markN (endG1 k g) g.scores) (endG1 k g))=_
  rw [heldN_mark,if_neg (by show ¬endW (endW (endN (endN k g.ts.values) g.ts.counts) g.lex) g.racks<0;omega)];rfl
 refine⟨?_,a6⟩
 unfold heldGm
 rw [e4]
 show (if endG2 k g<0 then -1 else heldN (markN (endG2 k g) g.clocks) (endG2 k g))=_
 rw [heldN_mark,if_neg (by show ¬endN (endW (endW (endN (endN k g.ts.values) g.ts.counts) g.lex) g.racks) g.scores<0;omega)];rfl
theorem held_m1 {x:Int} (h : -1≤x) (h2:std.ltI x 0=true) : -1=x:=by have:=lt_of h2;omega
theorem heldTs_bd {t:TS} {k:Int} (h:TsN t) (h0:0≤k) : -1≤heldTs t k∧heldTs t k≤k+2147483648:=by
 have:=h.v;have:=h.c;have:=heldN_bd t.values k h0
 unfold heldTs
 split
 ·omega
 ·have:=heldN_bd t.counts (heldN t.values k) (by omega);omega
theorem heldSu_bd {u:Su} {k:Int} (h:SuN u) (h0:0≤k) : -1≤heldSu u k∧heldSu u k≤k+3221225472:=by
 have:=h.l;have:=heldTs_bd h.ts h0
 unfold heldSu
 split
 ·omega
 ·have:=heldW_bd u.lex (heldTs u.ts k) (by omega);omega
section
variable {g:Gm} {k:Int}
theorem h_n1 (h:heldSu (gSu g) k<0):heldG1 g k= -1:=if_pos h
theorem h_y1 (h:0≤heldSu (gSu g) k):heldG1 g k=heldW g.racks (heldSu (gSu g) k):=if_neg (by omega)
theorem h_n2 (h:heldG1 g k= -1):heldG2 g k= -1:=if_pos (by omega)
theorem h_y2 (h:0≤heldG1 g k):heldG2 g k=heldN g.scores (heldG1 g k):=if_neg (by omega)
theorem h_n (h:heldG2 g k= -1):heldGm g k= -1:=if_pos (by omega)
theorem h_y (h:0≤heldG2 g k):heldGm g k=heldN g.clocks (heldG2 g k):=if_neg (by omega)
end
def fromN (l:List Int) (i k:Int):Int:=heldN (l.drop i.toNat) k
def fromW (l:List (List UInt8)) (i k:Int):Int:=heldW (l.drop i.toNat) k
def sp_l_heldInt64S (p:Pr):FSpec:=fsp (ac aN (a1 aI)) (fun (l,k)=>KnP k l) (fun (l,k)=>.i .i64 (heldN l k))
theorem ok_l_heldInt64S:FOk Tryz.prog 63 (sp_l_heldInt64S std):=by
 refine FOk.go (c:=cx std [] [] 0) (cx_ok .nil .nil) mixed Tryz.func63 rfl rfl rfl (by kernel_rfl) ?_
 rintro ⟨l,k⟩ hp
 dsimp only at hp
 refine⟨rfl,?_⟩
 obtain⟨H,hH⟩ : ∃H:Hd (Int×Int),H=⟨fun (m,i)=>0≤i∧i≤l.length∧m=k+i∧heldN l k=fromN l i m,fun (m,i)=>(l.length-i).toNat,(· < ·)⟩:=⟨_,rfl⟩
 have hl : ∀m n,H.lt m n→m<n:=by subst hH;exact fun _ _ h=>h
 generalize hP:std=p
 generalize hB0:heldN=B0
 generalize hB1:fromN=B1
 cbv
 repeat' first
  | (refine fun (_:Unit)=>?_;cbv)
  | (refine Or.inr ⟨6,[],[.s 1 (.i .i64),.s 5 (.i .i64)],[],[],H,rfl,hl,?_,fun ((m,i):Int×Int) hk=>?_⟩<;>cbv)
  | (refine And.intro (fun h=>?_) (fun h=>?_)<;>cbv)
  | (refine And.intro ?_ ?_)
 all_goals subst hP hB0 hB1 hH
 all_goals clear hl
 all_goals try dsimp only at hk
 all_goals try dsimp only
 all_goals try exact fin
 ·exact⟨Int.le_refl 0,Int.natCast_nonneg _,by omega,rfl⟩
 all_goals obtain⟨q0,q1,rfl,q3⟩:=hk
 all_goals have q1:i≤(l.length:Int):=q1
 all_goals have b1:=hp.lo
 all_goals have b2:=hp.hi
 all_goals have b3:=hp.n
 all_goals try (have hlt:i<(l.length:Int):=lt_of (by assumption))
 ·rw [q3,fromN,dc q0 hlt 0,heldN,if_neg (beq_eq_false_iff_ne.1 (show (l.getD i.toNat 0==k+i)=false from h))]
 ·exact in64 (by show _≤k+i+1∧k+i+1≤_;omega)
 ·exact in64 (by show _≤i+1∧i+1≤_;omega)
 ·refine⟨by show 0≤i+1;omega,by show i+1≤(l.length:Int);omega,by show k+i+1=k+(i+1);omega,?_⟩
  rw [q3]
  show fromN l i (k+i)=fromN l (i+1) (k+i+1)
  rw [fromN,dc q0 hlt 0,heldN,if_pos (beq_iff_eq.1 (show (l.getD i.toNat 0==k+i)=true from h))];rfl
 ·rw [q3,fromN,dn (ge_of h)];rfl
def sp_l_heldStringS (p:Pr):FSpec:=fsp (ac aW (a1 aI)) (fun (l,k)=>KnP k l) (fun (l,k)=>.i .i64 (heldW l k))
theorem ok_l_heldStringS:FOk Tryz.prog 62 (sp_l_heldStringS std):=by
 refine FOk.go (c:=cx std [(127,sp_l_markText std)] [] 0) (cx_ok (.cons ok_l_markText .nil) .nil) mixed Tryz.func62 rfl rfl rfl (by kernel_rfl) ?_
 rintro ⟨l,k⟩ hp
 dsimp only at hp
 refine⟨rfl,?_⟩
 unfold sp_l_markText
 obtain⟨H,hH⟩ : ∃H:Hd (Int×Int),H=⟨fun (m,i)=>0≤i∧i≤l.length∧m=k+i∧heldW l k=fromW l i m,fun (m,i)=>(l.length-i).toNat,(· < ·)⟩:=⟨_,rfl⟩
 have hl : ∀m n,H.lt m n→m<n:=by subst hH;exact fun _ _ h=>h
 generalize hP:std=p
 generalize hB0:heldW=B0
 generalize hB1:markI=B1
 generalize hB2:fromW=B2
 cbv
 repeat' first
  | (refine fun (_:Unit)=>?_;cbv)
  | (refine Or.inr ⟨6,[],[.s 1 (.i .i64),.s 5 (.i .i64)],[],[],H,rfl,hl,?_,fun ((m,i):Int×Int) hk=>?_⟩<;>cbv)
  | (refine And.intro (fun h=>?_) (fun h=>?_)<;>cbv)
  | (refine And.intro ?_ ?_)
 all_goals subst hP hB0 hB1 hB2 hH
 all_goals clear hl
 all_goals try dsimp only at hk
 all_goals try dsimp only
 all_goals try exact fin
 ·exact⟨Int.le_refl 0,Int.natCast_nonneg _,by omega,rfl⟩
 all_goals obtain⟨q0,q1,rfl,q3⟩:=hk
 all_goals have q1:i≤(l.length:Int):=q1
 all_goals have b1:=hp.lo
 all_goals have b2:=hp.hi
 all_goals have b3:=hp.n
 all_goals try (have hlt:i<(l.length:Int):=lt_of (by assumption))
 ·show 0≤k+i
  omega
 ·show k+i≤1152921504606846976
  omega
 ·rw [q3,fromW,dc q0 hlt [],heldW,if_neg (beq_eq_false_iff_ne.1 (show (l.getD i.toNat []==markI (k+i))=false from h))]
 ·exact in64 (by show _≤k+i+1∧k+i+1≤_;omega)
 ·exact in64 (by show _≤i+1∧i+1≤_;omega)
 ·refine⟨by show 0≤i+1;omega,by show i+1≤(l.length:Int);omega,by show k+i+1=k+(i+1);omega,?_⟩
  rw [q3]
  show fromW l i (k+i)=fromW l (i+1) (k+i+1)
  rw [fromW,dc q0 hlt [],heldW,if_pos (beq_iff_eq.1 (show (l.getD i.toNat []==markI (k+i))=true from h))];rfl
 ·rw [q3,fromW,dn (ge_of h)];rfl
def sp_l_heldTileSet (p:Pr):FSpec:=fsp (ac (aA aTs) (a1 aI)) (fun (t,k)=>KnT k t) (fun (t,k)=>.i .i64 (heldTs t k))
theorem ok_l_heldTileSet:FOk Tryz.prog 128 (sp_l_heldTileSet std):=by
 refine FOk.go (c:=cx std [(63,sp_l_heldInt64S std)] [] 0) (cx_ok (.cons ok_l_heldInt64S .nil) .nil) mixed Tryz.func128 rfl rfl rfl (by kernel_rfl) ?_
 rintro ⟨t,k⟩ hp
 dsimp only at hp
 refine⟨rfl,?_⟩
 unfold sp_l_heldInt64S
 generalize hP:std=p
 generalize hB0:heldTs=B0
 generalize hB1:heldN=B1
 cbv
 repeat' first
  | (refine fun (_:Unit)=>?_;cbv)
  | (refine And.intro (fun h=>?_) (fun h=>?_)<;>cbv)
  | (refine And.intro ?_ ?_)
  | (refine Or.inl (fun (_:Unit)=>?_);cbv)
 all_goals subst hP hB0 hB1
 all_goals try exact fin
 all_goals have b1:=hp.lo
 all_goals have b2:=hp.hi
 all_goals have b3:=hp.n.v
 all_goals have b5:=heldN_bd t.values k b1
 ·exact⟨b1,by omega,b3⟩
 ·rw [heldTs,if_pos (lt_of h)]
 ·exact⟨ge_of h,by omega,hp.n.c⟩
 all_goals have b6:0≤heldN t.values k:=ge_of (by assumption)
 all_goals rw [heldTs,if_neg (by omega)]
 ·exact held_m1 (heldN_bd _ _ b6).1 h
def sp_l_heldLexicon (p:Pr):FSpec:=fsp (ac (aA aLex) (a1 aI)) (fun (l,k)=>KnP k l) (fun (l,k)=>.i .i64 (heldW l k))
theorem ok_l_heldLexicon:FOk Tryz.prog 129 (sp_l_heldLexicon std):=by
 refine FOk.go (c:=cx std [(62,sp_l_heldStringS std)] [] 0) (cx_ok (.cons ok_l_heldStringS .nil) .nil) mixed Tryz.func129 rfl rfl rfl (by kernel_rfl) ?_
 rintro ⟨l,k⟩ hp
 dsimp only at hp
 refine⟨rfl,?_⟩
 unfold sp_l_heldStringS
 generalize hP:std=p
 generalize hB0:heldW=B0
 cbv
 repeat' first
  | (refine fun (_:Unit)=>?_;cbv)
  | (refine And.intro (fun h=>?_) (fun h=>?_)<;>cbv)
  | (refine And.intro ?_ ?_)
  | (refine Or.inl (fun (_:Unit)=>?_);cbv)
 all_goals subst hP hB0
 all_goals try exact fin
 ·exact held_m1 (heldW_bd l k hp.lo).1 h
def sp_l_heldSetup (p:Pr):FSpec:=fsp (ac (aA aSu) (a1 aI)) (fun (u,k)=>KnS k u) (fun (u,k)=>.i .i64 (heldSu u k))
theorem ok_l_heldSetup:FOk Tryz.prog 61 (sp_l_heldSetup std):=by
 refine FOk.go (c:=cx std [(128,sp_l_heldTileSet std),(129,sp_l_heldLexicon std)] [] 0) (cx_ok (.cons ok_l_heldTileSet (.cons ok_l_heldLexicon .nil)) .nil) mixed Tryz.func61 rfl rfl rfl (by kernel_rfl) ?_
 rintro ⟨u,k⟩ hp
 dsimp only at hp
 refine⟨rfl,?_⟩
 unfold sp_l_heldTileSet sp_l_heldLexicon
 generalize hP:std=p
 generalize hB0:heldSu=B0
 generalize hB1:heldTs=B1
 generalize hB2:heldW=B2
 cbv
 repeat' first
  | (refine fun (_:Unit)=>?_;cbv)
  | (refine And.intro (fun h=>?_) (fun h=>?_)<;>cbv)
  | (refine And.intro ?_ ?_)
  | (refine Or.inl (fun (_:Unit)=>?_);cbv)
 all_goals subst hP hB0 hB1 hB2
 all_goals try exact fin
 all_goals (try simp only [eta_ts,eta_bd,eta_su] at *)
 all_goals have b1:=hp.lo
 all_goals have b2:=hp.hi
 all_goals have b5:=heldTs_bd hp.n.ts b1
 ·exact⟨b1,by omega,hp.n.ts⟩
 ·rw [heldSu,if_pos (lt_of h)]
 ·exact⟨ge_of h,by omega,hp.n.l⟩
 all_goals have b6:0≤heldTs u.ts k:=ge_of (by assumption)
 all_goals rw [heldSu,if_neg (by omega)]
 ·exact held_m1 (heldW_bd _ _ b6).1 h
def sp_l_heldGame (p:Pr):FSpec:=fsp (ac (aA aGm) (a1 aI)) (fun (g,k)=>KnG k g) (fun (g,k)=>.i .i64 (heldGm g k))
theorem ok_l_heldGame:FOk Tryz.prog 16 (sp_l_heldGame std):=by
 refine FOk.go (c:=cx std [(61,sp_l_heldSetup std),(62,sp_l_heldStringS std),(63,sp_l_heldInt64S std)] [] 0) (cx_ok (.cons ok_l_heldSetup (.cons ok_l_heldStringS (.cons ok_l_heldInt64S .nil))) .nil) mixed Tryz.func16 rfl rfl rfl (by kernel_rfl) ?_
 rintro ⟨g,k⟩ hp
 dsimp only at hp
 refine⟨rfl,?_⟩
 unfold sp_l_heldSetup sp_l_heldStringS sp_l_heldInt64S
 generalize hP:std=p
 generalize hB0:heldGm=B0
 generalize hB1:heldSu=B1
 generalize hB2:heldW=B2
 generalize hB3:heldN=B3
 cbv
 repeat' first
  | (refine fun (_:Unit)=>?_;cbv)
  | (refine And.intro (fun h=>?_) (fun h=>?_)<;>cbv)
  | (refine And.intro ?_ ?_)
  | (refine Or.inl (fun (_:Unit)=>?_);cbv)
 all_goals subst hP hB0 hB1 hB2 hB3
 all_goals try exact fin
 all_goals (try simp only [eta_ts,eta_bd,eta_su] at *)
 all_goals have b1:=hp.lo
 all_goals have b2:=hp.hi
 all_goals have b5:=heldSu_bd hp.n.su b1
 ·exact⟨b1,by omega,hp.n.su⟩
 ·exact (h_n (h_n2 (h_n1 (lt_of h)))).symm
 ·exact⟨ge_of h,by omega,hp.n.r⟩
 all_goals have b6:0≤heldSu (gSu g) k:=ge_of (by assumption)
 all_goals have b7:=heldW_bd g.racks _ b6
 all_goals have c1:=hp.n.r
 all_goals have e1:=h_y1 b6
 ·exact (h_n (h_n2 (e1.trans (held_m1 b7.1 h).symm))).symm
 ·exact⟨ge_of h,by omega,hp.n.s⟩
 all_goals have b8:0≤heldW g.racks (heldSu (gSu g) k):=ge_of (by assumption)
 all_goals have b9:=heldN_bd g.scores _ b8
 all_goals have c2:=hp.n.s
 all_goals have e2:=h_y2 (g:=g) (k:=k) (by rw [e1];exact b8)
 all_goals rw [e1] at e2
 ·exact (h_n (e2.trans (held_m1 b9.1 h).symm)).symm
 ·exact⟨ge_of h,by omega,hp.n.k⟩
 all_goals have d1:0≤heldN g.scores (heldW g.racks (heldSu (gSu g) k)):=ge_of (by assumption)
 all_goals have e3:=h_y (g:=g) (k:=k) (by rw [e2];exact d1)
 all_goals rw [e3,e2]
 ·exact held_m1 (heldN_bd _ _ d1).1 h
end Ax
end Go.Proofs.YtpmakcfjdkaegaaGreatDoor
namespace Go.Proofs.YtpmakcfjdkaegaaGreatDoor
namespace Ax
set_option maxRecDepth 100000
set_option maxHeartbeats 2000000
def ckL (g:Gm) (n:Int):List Int:=g.clocks.set g.player.toNat (g.clk g.player-n)
def clockG (g:Gm) (n:Int):Gm:={ g with clocks:=ckL g n }
def gmHk (g g':Gm):AH:=[(0,.cells (gmK g' (.osl 1) (.osl 2) (.osl 3) (.osl 4) (.osl 5) (.osl 7)) 51),(1,.own [.i .i64] g.ts.values 2),(2,.own [.i .i64] g.ts.counts 2),(3,.own [.s] g.lex 9),(4,.own [.s] g.racks 9),
 (5,.own [.i .i64] g.scores 2),(6,.own [.i .i64] g.clocks 2),(7,.own [.i .i64] g'.clocks 2)]
def gmHs (g g':Gm):AH:=[(0,.cells (gmK g' (.osl 1) (.osl 2) (.osl 3) (.osl 4) (.osl 7) (.osl 6)) 51),(1,.own [.i .i64] g.ts.values 2),(2,.own [.i .i64] g.ts.counts 2),(3,.own [.s] g.lex 9),(4,.own [.s] g.racks 9),
 (5,.own [.i .i64] g.scores 2),(6,.own [.i .i64] g.clocks 2),(7,.own [.i .i64] g'.scores 2)]
structure CkP (g:Gm) (n:Int):Prop where
 len:g.clocks.length=2
 ply:g.player=0∨g.player=1
 num : -72000≤g.clk g.player-n∧g.clk g.player-n≤72000
theorem ck_in {g:Gm} {n:Int} (hp:CkP g n):std.inL g.player (std.len g.clocks):=by
 have:=hp.len
 refine⟨?_,?_⟩
 ·rcases hp.ply with h | h<;>omega
 ·show g.player<(g.clocks.length:Int)
  rcases hp.ply with h | h<;>omega
def sp_s_l18Clock (p:Pr):MSpec:=msp (mG (a1 aI)) (fun (g,n)=>CkP g n) (fun (g,n)=>.tup []) (fun (g,n)=>gmHk g { g with clocks:=ckL g n })
theorem ok_s_l18Clock:MOk Tryz.prog 160 (sp_s_l18Clock std):=by
 refine MOk.go (c:=cx std [(79,sp_s_l00Own std)] [] 7) (cx_ok (.cons ok_s_l00Own .nil) .nil) mixed Tryz.func160 rfl rfl (by kernel_rfl) ?_
 rintro ⟨g,n⟩ hp
 dsimp only at hp
 refine⟨rfl,?_⟩
 unfold sp_s_l00Own
 generalize hP:std=p
 generalize hB0:ckL=B0
 cbv
 repeat' first
  | (refine fun (_:Unit)=>?_;cbv)
  | (refine And.intro (fun h=>?_) (fun h=>?_)<;>cbv)
  | (refine And.intro ?_ ?_)
  | (refine Or.inl (fun (_:Unit)=>?_);cbv)
 all_goals subst hP hB0
 all_goals have f1:=ck_in hp
 all_goals try exact fin
 ·exact ltM_of (by rw [hp.len];decide)
 ·have:=hp.num
  exact in64 (by show _≤g.clk g.player-n∧g.clk g.player-n≤_;omega)
structure EndP (g:Gm):Prop where
 ts:TsOk g.ts
 rk:g.racks.length=2
 ck:g.clocks.length=2
 len : ∀k:Int,(g.rk k).length ≤7
 clk : ∀k:Int, -36000≤g.clk k
def chgs (g:Gm):List Int:=[chg g 0,chg g 1]
section
variable {g:Gm} {k:Int}
theorem e_sum (hp:EndP g) (k:Int):0≤sumT g.ts (g.rk k)∧sumT g.ts (g.rk k)≤140:=by
 have h1:=sumT_bd hp.ts (g.rk k)
 have h2:=hp.len k
 omega
theorem e_pen (hp:EndP g) (k:Int):0≤pen (g.clk k)∧pen (g.clk k)≤6010:=Go.Proofs.YtpmakcfjdkaegaaGreatDoor.pen_bd (hp.clk k)
theorem e_yes (h:std.eqS (g.rk k) []=true):0-sumT g.ts (g.rk k)-pen (g.clk k)+sumT g.ts (g.rk (1-k))=chg g k:=by
 have h:g.rk k=[]:=by simpa using h
 unfold chg
 rw [h]
 simp only [List.isEmpty_nil,if_true]
 omega
theorem e_no (h:std.eqS (g.rk k) []=false):0-sumT g.ts (g.rk k)-pen (g.clk k)=chg g k:=by
 have h:g.rk k≠[]:=by simpa using h
 unfold chg
 rw [if_neg (by simpa using h)]
 omega
theorem chg_bd (hp:EndP g) (k:Int) : -10000≤chg g k∧chg g k≤10000:=by
 have h1:=e_sum hp k
 have h2:=e_pen hp k
 have h3:=e_sum hp (1-k)
 unfold chg
 split<;>omega
theorem chgs_step (h0:0≤k) (h:k<2):(chgs g).take k.toNat++[chg g k]=(chgs g).take (k+1).toNat :=by
 rw [tk h0 (by show k<2;omega) 0]
 congr 2
 rcases (show k=0∨k=1 from by omega) with rfl | rfl<;>rfl
end
def sp_s_l18Change (p:Pr):FSpec:=fsp (a1 (aP aGm)) (fun g=>EndP g) (fun g=>.osl 0) (fun g=>[(0,.own [.i .i64] (chgs g) 2)])
theorem ok_s_l18Change:FOk Tryz.prog 209 (sp_s_l18Change std):=by
 refine FOk.go (c:=cx std [(260,sp_s_l02Sum std),(261,sp_s_l18Penalty std)] [] 0) (cx_ok (.cons ok_s_l02Sum (.cons ok_s_l18Penalty .nil)) .nil) mixed Tryz.func209 rfl rfl rfl (by kernel_rfl) ?_
 rintro g hp
 refine⟨rfl,?_⟩
 unfold sp_s_l02Sum sp_s_l18Penalty
 obtain⟨H,hH⟩ : ∃H:Hd (Int×List Int),H=⟨fun (k,L)=>0≤k∧k≤2∧L=(chgs g).take k.toNat,fun (k,L)=>(2-k).toNat,(· < ·)⟩:=⟨_,rfl⟩
 have hl : ∀m n,H.lt m n→m<n:=by subst hH;exact fun _ _ h=>h
 generalize hP:std=p
 generalize hB0:chgs=B0
 generalize hB1:sumT=B1
 generalize hB2:pen=B2
 cbv
 repeat' first
  | (refine fun (_:Unit)=>?_;cbv)
  | (refine Or.inr ⟨8,[],[.s 4 (.i .i64),.o 0 [.i .i64]],[.s 3],[],H,rfl,hl,?_,fun ((k,L):Int×List Int) hk=>?_⟩<;>cbv)
  | (refine And.intro (fun h=>?_) (fun h=>?_)<;>cbv)
  | (refine And.intro ?_ ?_)
 all_goals subst hP hB0 hB1 hB2 hH
 all_goals clear hl
 all_goals try dsimp only at hk
 all_goals try dsimp only
 all_goals try exact fin
 all_goals obtain⟨q0,q1,rfl⟩:=hk
 all_goals try (have h1:k<2:=lt_of (by assumption))
 all_goals have a1:=e_sum hp k
 all_goals have a2:=e_pen hp k
 all_goals have a3:=e_sum hp (1-k)
 all_goals have a4:=hp.rk
 all_goals have a5:=hp.ck
 all_goals have a6:=hp.len k
 all_goals have a7:=hp.len (1-k)
 all_goals have a8:=hp.clk k
 ·exact⟨q0,by show k<(g.racks.length:Int);omega⟩
 ·exact ltM_of (n:=(g.rk k).length) (by omega)
 ·exact in64 (by show _≤0-sumT g.ts (g.rk k)∧0-sumT g.ts (g.rk k)≤_;omega)
 ·exact⟨q0,by show k<(g.clocks.length:Int);omega⟩
 ·exact a8
 ·exact in64 (by show _≤0-sumT g.ts (g.rk k)-pen (g.clk k)∧0-sumT g.ts (g.rk k)-pen (g.clk k)≤_;omega)
 ·exact⟨q0,by show k<(g.racks.length:Int);omega⟩
 ·exact⟨by show 0≤1-k;omega,by show 1-k<(g.racks.length:Int);omega⟩
 ·exact ltM_of (n:=(g.rk (1-k)).length) (by omega)
 ·exact in64 (by show _≤0-sumT g.ts (g.rk k)-pen (g.clk k)+sumT g.ts (g.rk (1-k))∧0-sumT g.ts (g.rk k)-pen (g.clk k)+sumT g.ts (g.rk (1-k))≤_;omega)
 ·show (((chgs g).take k.toNat).length : Int)+1≤_
  rw [List.length_take];omega
 ·refine⟨by show 0≤k+1;omega,by show k+1≤2;omega,?_⟩
  show (chgs g).take k.toNat++[0-sumT g.ts (g.rk k)-pen (g.clk k)+sumT g.ts (g.rk (1-k))]=(chgs g).take (k+1).toNat
  rw [e_yes (k:=k) (by assumption),chgs_step q0 h1]
 ·show (((chgs g).take k.toNat).length : Int)+1≤_
  rw [List.length_take];omega
 ·refine⟨by show 0≤k+1;omega,by show k+1≤2;omega,?_⟩
  show (chgs g).take k.toNat++[0-sumT g.ts (g.rk k)-pen (g.clk k)]=(chgs g).take (k+1).toNat
  rw [e_no (k:=k) (by assumption),chgs_step q0 h1]
 ·rw [tk_all (show ((chgs g).length : Int)≤k from ge_of (by assumption))]
structure SetP (g:Gm):Prop where
 en:EndP g
 len:g.scores.length=2
 lo : ∀k:Int, -1000000≤g.sc k
 hi : ∀k:Int,g.sc k≤1000000
def setSc (g:Gm):List Int:=[g.sc 0+chg g 0,g.sc 1+chg g 1]
theorem two_0 {L:List Int} (h:L.length=2):std.inL 0 (std.len L):=⟨Int.le_refl 0,by show (0:Int)<(L.length:Int);omega⟩
theorem two_1 {L:List Int} (h:L.length=2):std.inL 1 (std.len L):=⟨by decide,by show (1:Int)<(L.length:Int);omega⟩
theorem set_num {g:Gm} (h:SetP g) (k:Int) : -9223372036854775808≤g.sc k+chg g k∧g.sc k+chg g k≤9223372036854775807:=by
 have h1:=chg_bd h.en k
 have h2:=h.lo k
 have h3:=h.hi k
 omega
def sp_s_l18Settle (p:Pr):MSpec:=msp (mG a0) (fun (g,_u)=>SetP g) (fun (g,_u)=>.tup []) (fun (g,_u)=>gmHs g { g with scores:=setSc g,over:=true })
theorem ok_s_l18Settle:MOk Tryz.prog 161 (sp_s_l18Settle std):=by
 refine MOk.go (c:=cx std [(209,sp_s_l18Change std)] [] 7) (cx_ok (.cons ok_s_l18Change .nil) .nil) mixed Tryz.func161 rfl rfl (by kernel_rfl) ?_
 rintro ⟨g,_u⟩ hp
 dsimp only at hp
 refine⟨rfl,?_⟩
 unfold sp_s_l18Change
 generalize hP:std=p
 generalize hB0:chgs=B0
 generalize hB1:setSc=B1
 cbv
 repeat' first
  | (refine fun (_:Unit)=>?_;cbv)
  | (refine And.intro (fun h=>?_) (fun h=>?_)<;>cbv)
  | (refine And.intro ?_ ?_)
  | (refine Or.inl (fun (_:Unit)=>?_);cbv)
 all_goals subst hP hB0 hB1
 all_goals try exact fin
 ·exact two_0 hp.len
 ·exact two_0 hp.len
 ·exact two_0 (L:=chgs g) rfl
 ·exact two_0 (L:=chgs g) rfl
 ·exact in64 (set_num hp 0)
 ·exact two_1 hp.len
 ·exact two_1 hp.len
 ·exact two_1 (L:=chgs g) rfl
 ·exact two_1 (L:=chgs g) rfl
 ·exact in64 (set_num hp 1)
end Ax
end Go.Proofs.YtpmakcfjdkaegaaGreatDoor
namespace Go.Proofs.YtpmakcfjdkaegaaGreatDoor
namespace Ax
set_option maxRecDepth 100000
set_option maxHeartbeats 2000000
def tripB:Option UInt8→List UInt8→List Int→List Int→Bool
 | p,a::r,v::vs,c::cs=>smallB a&&(aftB p a&&(inR v 0 20&&(inR c 1 20&&tripB (some a) r vs cs)))
 | _,_,_,_=>true
theorem tripB_eq : ∀(l:List UInt8) (p:Option UInt8) (vs cs:List Int),vs.length=l.length→cs.length=l.length→tripB p l vs cs=(smFrom p l&&vcB vs cs)
 | [],p,[],[],_,_=>rfl
 | [],_,_::_,_,h,_=>by simp at h
 | [],_,[],_::_,_,h=>by simp at h
 | _::_,_,[],_,h,_=>by simp at h
 | _::_,_,_::_,[],_,h=>by simp at h
 | a::l,p,v::vs,c::cs,h1,h2=>by
   rw [tripB,smFrom,vcB,tripB_eq l (some a) vs cs (by simpa using h1) (by simpa using h2)]
   cases smallB a<;>cases aftB p a<;>cases inR v 0 20<;>cases inR c 1 20<;>cases smFrom (some a) l<;>simp
theorem smFrom_len : ∀(l:List UInt8) (q:UInt8),smFrom (some q) l=true→smallB q=true→l.length+q.toNat≤122
 | [],q,_,hq=>by
   unfold smallB at hq
   simp only [Bool.and_eq_true,decide_eq_true_eq] at hq
   simp only [List.length_nil]
   omega
 | a::r,q,h,_=>by
   rw [smFrom] at h
   simp only [Bool.and_eq_true,aftB,decide_eq_true_eq] at h
   have h2:=smFrom_len r a h.2.2 h.1
   rw [List.length_cons]
   omega
theorem smFrom_26 {l:List UInt8} (h:smFrom none l=true):l.length≤26:=by
 match l,h with
 | [],_=>exact Nat.zero_le _
 | a::r,h=>
   rw [smFrom] at h
   simp only [Bool.and_eq_true] at h
   have h2:=smFrom_len r a h.2.2 h.1
   have h3:=h.1
   unfold smallB at h3
   simp only [Bool.and_eq_true,decide_eq_true_eq] at h3
   rw [List.length_cons]
   omega
def prevL (l:List UInt8) (k:Nat):Option UInt8:=if k=0 then none else l[k-1]?
theorem tripB_step (L:List UInt8) (V C:List Int) (k:Nat) (h:k<L.length) (h1:k<V.length) (h2:k<C.length) :
 tripB (prevL L k) (L.drop k) (V.drop k) (C.drop k)=(smallB L[k]&&(aftB (prevL L k) L[k]&&(inR V[k] 0 20&&(inR C[k] 1 20&&tripB (prevL L (k+1)) (L.drop (k+1)) (V.drop (k+1)) (C.drop (k+1)))))):=by
 have e:prevL L (k+1)=some L[k]:=by unfold prevL;rw [if_neg (by omega)];simp
 rw [e,List.drop_eq_getElem_cons h,List.drop_eq_getElem_cons h1,List.drop_eq_getElem_cons h2]
 rfl
theorem tsB_trip (t:TS):tsB t=(inR t.letters.length 1 26&&(decide (t.values.length=t.letters.length)&&(decide (t.counts.length=t.letters.length)&&(inR t.blanks 0 4&&(tripB none t.letters t.values t.counts&&decide (t.blanks+t.counts.sum≤120)))))):=by
 unfold tsB
 by_cases h1:t.values.length=t.letters.length
 ·by_cases h2:t.counts.length=t.letters.length
  ·rw [tripB_eq _ _ _ _ h1 h2,decide_eq_true h1,decide_eq_true h2]
   cases hs:smFrom none t.letters
   ·simp
   ·have:=smFrom_26 hs
    have e:inR (t.letters.length:Int) 1 26=decide (1≤t.letters.length):=by
     unfold inR
     rw [Bool.eq_iff_iff]
     simp
     omega
    rw [e]
    simp
  ·rw [decide_eq_false h2]
   simp
 ·rw [decide_eq_false h1]
  simp
def trK (t:TS) (k:Int):Bool:=tripB (prevL t.letters k.toNat) (t.letters.drop k.toNat) (t.values.drop k.toNat) (t.counts.drop k.toNat)
def rise (t:TS) (k:Int):Bool:=aftB (prevL t.letters k.toNat) (t.letters.getD k.toNat 0)
section
variable {t:TS} {k:Int}
theorem tr_step (hv:t.values.length=t.letters.length) (hc:t.counts.length=t.letters.length) (h0:0≤k) (h:k<t.letters.length):trK t k=(inR (std.byte t.letters k) 97 122&&(rise t k&&(inR (std.get 0 t.values k) 0 20&&(inR (std.get 0 t.counts k) 1 20&&trK t (k+1))))):=by
 have h1:k.toNat<t.letters.length:=by omega
 unfold trK rise
 rw [tripB_step _ _ _ _ h1 (by omega) (by omega),show (k+1).toNat =k.toNat+1 from by omega,sd_byte,sd_get,sd_get]
 simp only [List.getD_eq_getElem?_getD,List.getElem?_eq_getElem h1,List.getElem?_eq_getElem (show k.toNat<t.values.length by omega),List.getElem?_eq_getElem (show k.toNat<t.counts.length by omega),Option.getD_some]
 congr 1
theorem rise_0 (h0:0≤k) (h:std.ltI 0 k=false):rise t k=true:=by
 have h1:=ge_of h
 have h2:k.toNat=0:=by omega
 unfold rise prevL
 rw [h2,if_pos rfl];rfl
theorem rise_e (h0:std.ltI 0 k=true) (h:k<t.letters.length):rise t k=!(std.leI (std.byte t.letters k) (std.byte t.letters (std.sub k 1))):=by
 have h1:=lt_of h0
 unfold rise prevL
 rw [if_neg (by omega)]
 simp only [sd_leI,sd_byte,sd_sub]
 rw [show (k-1).toNat =k.toNat-1 from by omega]
 rw [List.getD_eq_getElem?_getD (i:=k.toNat-1),List.getElem?_eq_getElem (show k.toNat-1<t.letters.length by omega)]
 show decide _=_
 rw [Bool.eq_iff_iff]
 simp
theorem tr_no (e:tsB t=(trK t k&&decide (t.blanks+t.counts.sum≤120))) {a r v n z:Bool} (st:trK t k=(a&&(r&&(v&&(n&&z))))) (h:(a&&(r&&(v&&n)))=false):tsB t=false:=by
 rw [e,st]
 revert h
 cases a<;>cases r<;>cases v<;>cases n<;>simp
end
theorem ts_n1 {t:TS} (h:inR t.letters.length 1 26=false):tsB t=false:=by rw [tsB_trip,h];rfl
theorem ts_n2 {t:TS} (h : ¬t.values.length=t.letters.length):tsB t=false:=by rw [tsB_trip,decide_eq_false h];simp
theorem ts_n3 {t:TS} (h : ¬t.counts.length=t.letters.length):tsB t=false:=by rw [tsB_trip,decide_eq_false h];simp
theorem ts_n4 {t:TS} (h:inR t.blanks 0 4=false):tsB t=false:=by rw [tsB_trip,h];simp
theorem ts_go {t:TS} (h:inR t.letters.length 1 26=true) (h2:t.values.length=t.letters.length) (h3:t.counts.length=t.letters.length) (h4:inR t.blanks 0 4=true):tsB t=(trK t 0&&decide (t.blanks+t.counts.sum≤120)):=by
 rw [tsB_trip,h,decide_eq_true h2,decide_eq_true h3,h4];rfl
theorem len_e {L:List Int} {s:List UInt8} (h:std.eqI (std.len L) (std.lenS s)=true):L.length=s.length:=by
 simp only [sd_eqI,sd_len,sd_lenS,beq_iff_eq] at h;omega
theorem len_n {L:List Int} {s:List UInt8} (h:std.eqI (std.len L) (std.lenS s)=false) : ¬L.length=s.length:=by
 simp only [sd_eqI,sd_len,sd_lenS,beq_eq_false_iff_ne,ne_eq] at h;omega
theorem in_bd {a b c:Int} (h:inR a b c=true):b≤a∧a≤c:=by simpa [inR] using h
structure TsL (t:TS):Prop where
 l:t.letters.length≤274877906944
 v:t.values.length≤274877906944
 c:t.counts.length≤274877906944
def sp_s_l02Ok (p:Pr):FSpec:=fsp (a1 (aP aTs)) (fun t=>TsL t) (fun t=>.b (tsB t))
theorem ok_s_l02Ok:FOk Tryz.prog 138 (sp_s_l02Ok std):=by
 refine FOk.go (c:=cx std [(86,sp_s_l00In std),(197,sp_s_l01Small std)] [] 0) (cx_ok (.cons ok_s_l00In (.cons ok_s_l01Small .nil)) .nil) mixed Tryz.func138 rfl rfl rfl (by kernel_rfl) ?_
 rintro t hp
 refine⟨rfl,?_⟩
 unfold sp_s_l00In sp_s_l01Small
 obtain⟨H,hH⟩ : ∃H:Hd (Int×Int),H=⟨fun (m,k)=>0≤k∧k≤t.letters.length∧m=t.blanks+(t.counts.take k.toNat).sum ∧0≤m∧m≤4+20*k∧tsB t=(trK t k&&decide (t.blanks+t.counts.sum≤120)),fun (m,k)=>(t.letters.length-k).toNat,(· < ·)⟩:=⟨_,rfl⟩
 have hl : ∀m n,H.lt m n→m<n:=by subst hH;exact fun _ _ h=>h
 generalize hP:std=p
 generalize hB0:tsB=B0
 generalize hB1:smallB=B1
 generalize hB2:inR=B2
 generalize hB3:u8=B3
 cbv
 repeat' first
  | (refine fun (_:Unit)=>?_;cbv)
  | (refine Or.inr ⟨44,[],[.s 4 (.i .i64),.s 5 (.i .i64)],[],[],H,rfl,hl,?_,fun ((m,k):Int×Int) hk=>?_⟩<;>cbv)
  | (refine And.intro (fun h=>?_) (fun h=>?_)<;>cbv)
  | (refine And.intro ?_ ?_)
 all_goals subst hP hB0 hB1 hB2 hB3 hH
 all_goals clear hl
 all_goals try dsimp only at hk
 all_goals try dsimp only
 all_goals try exact fin
 ·exact ts_n4 (by assumption)
 ·have b4:=in_bd (show inR t.blanks 0 4=true by assumption)
  exact⟨Int.le_refl 0,Int.natCast_nonneg _,by simp,b4.1,b4.2,ts_go (by assumption) (len_e (by assumption)) (len_e (by assumption)) (by assumption)⟩
 all_goals try (have b1:=in_bd (show inR (t.letters.length:Int) 1 26=true by assumption))
 all_goals try (have b2:=len_e (L:=t.values) (s:=t.letters) (by assumption))
 all_goals try (have b3:=len_e (L:=t.counts) (s:=t.letters) (by assumption))
 all_goals try (obtain⟨q0,q1,q2,q3,q4,e⟩:=hk)
 all_goals try (have h1:k<t.letters.length:=lt_of (by assumption))
 all_goals try (have st:=tr_step b2 b3 q0 h1)
 all_goals try (have r0:=rise_0 (t:=t) q0 (by assumption))
 all_goals try (have r1:=rise_e (t:=t) (k:=k) (by assumption) h1)
 all_goals try (have c1:=in_bd (show inR (std.get 0 t.counts k) 1 20=true by assumption))
 all_goals try (have c2:=sum_tk (L:=t.counts) q0 (by omega))
 ·exact in64 (by show _≤k-1∧k-1≤_;omega)
 ·exact tr_no e st (by rw [show inR (std.get 0 t.counts k) 1 20=false by assumption];simp)
 ·exact in64 (by show _≤m+std.get 0 t.counts k∧m+std.get 0 t.counts k≤_;omega)
 ·exact in64 (by show _≤k+1∧k+1≤_;omega)
 ·have g1:k+1≤(t.letters.length:Int):=by omega
  refine⟨by show 0≤k+1;omega,g1,by show m+std.get 0 t.counts k=t.blanks+(t.counts.take (k+1).toNat).sum;rw [c2];simp only [sd_get];omega,by show 0≤m+std.get 0 t.counts k;omega,by show m+std.get 0 t.counts k≤4+20*(k+1);omega,?_⟩
  rw [e,st,r1,show inR (std.byte t.letters k) 97 122=true by assumption,show std.leI (std.byte t.letters k) (std.byte t.letters (std.sub k 1))=false by assumption,show inR (std.get 0 t.values k) 0 20=true by assumption,show inR (std.get 0 t.counts k) 1 20=true by assumption]
  rfl
 ·exact tr_no e st (by rw [show inR (std.get 0 t.values k) 0 20=false by assumption];simp)
 ·exact tr_no e st (by rw [r1,show std.leI (std.byte t.letters k) (std.byte t.letters (std.sub k 1))=true by assumption];simp)
 ·exact tr_no e st (by rw [show inR (std.get 0 t.counts k) 1 20=false by assumption];simp)
 ·exact in64 (by show _≤m+std.get 0 t.counts k∧m+std.get 0 t.counts k≤_;omega)
 ·have g1:k+1≤(t.letters.length:Int):=by omega
  refine⟨by show 0≤k+1;omega,g1,by show m+std.get 0 t.counts k=t.blanks+(t.counts.take (k+1).toNat).sum;rw [c2];simp only [sd_get];omega,by show 0≤m+std.get 0 t.counts k;omega,by show m+std.get 0 t.counts k≤4+20*(k+1);omega,?_⟩
  rw [e,st,r0,show inR (std.byte t.letters k) 97 122=true by assumption,show inR (std.get 0 t.values k) 0 20=true by assumption,show inR (std.get 0 t.counts k) 1 20=true by assumption]
  rfl
 ·exact tr_no e st (by rw [show inR (std.get 0 t.values k) 0 20=false by assumption];simp)
 ·exact tr_no e st (by rw [show inR (std.byte t.letters k) 97 122=false by assumption];simp)
 ·have h2:(t.letters.length:Int)≤k:=ge_of (by assumption)
  rw [e,q2,tk_all (by omega)]
  unfold trK
  rw [dn h2]
  rfl
 ·exact ts_n3 (len_n (by assumption))
 ·exact ts_n2 (len_n (by assumption))
 ·exact ts_n1 (by assumption)
end Ax
end Go.Proofs.YtpmakcfjdkaegaaGreatDoor
