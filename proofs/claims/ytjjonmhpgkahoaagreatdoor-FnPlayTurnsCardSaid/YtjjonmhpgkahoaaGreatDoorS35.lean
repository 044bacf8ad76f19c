/-
  What the laws of turns are asked: walked; What the laws of turns are asked: walked; What the laws of quiet turns are handed: walked; Small functions of the laws of games: walked; Who wins, what a clock costs, what is unseen: walked; What a row of bytes comes in as; laws that return true; Games whose rows are not long: what the callees ask; If nobody plays, a game ends, with the changes that were told before; Tiles on a board, piles added, all tiles: walked; The plain walker: a told result, told as a bounded one (its value is then short); Cells set; plays drawn: walked; What the law of beginnings is handed: walked.
  Conditions: none.
-/
import Derived.Test.YtjjonmhpgkahoaaGreatDoorS34
import Derived.Test.YtjjonmhpgkahoaaGreatDoorS15
import Derived.Test.YtjjonmhpgkahoaaGreatDoorS20
import Derived.Test.YtjjonmhpgkahoaaGreatDoorS29
import Derived.Test.YtjjonmhpgkahoaaGreatDoorS31
set_option linter.unusedSimpArgs false
set_option linter.unusedVariables false
namespace Go.Proofs.YtjjonmhpgkahoaaGreatDoor
namespace Ax
set_option maxRecDepth 100000
set_option maxHeartbeats 20000000
end Ax
namespace Ax
set_option maxRecDepth 100000
set_option maxHeartbeats 20000000
end Ax
namespace Ax
set_option maxRecDepth 100000
set_option maxHeartbeats 20000000
def aY:Arg (List Int):=⟨fun | .rsl [.i .u8] n=>some n | _=>none,.rsl [.i .u8],fun x a h=>by split at h<;>cases h;rfl⟩
structure CdP (l:List Int):Prop where
 b : ∀x∈l,0≤x∧x≤255
 n:(l.length:Int)≤1048576
theorem CdP.s {l:List Int} {n:Int} (h:CdP l) (hn:0≤n):SrOk n ⟨l,0,0⟩:=⟨Int.le_refl 0,hn,h.n,h.b⟩
theorem BeB.gl {g:Gm} (h:BeB g):GmL g:=(h.b.s (q:=⟨0,0,false,[]⟩) (by decide) (by decide)).gm
def sp_s_l00From (p:Pr):FSpec:=fsp (a1 aY) (fun code=>True) (fun code=>.ptr 0 0) (fun code=>srH ⟨code,0,0⟩)
theorem ok_s_l00From:FOk Tryz.prog 61 (sp_s_l00From std):=by
 refine FOk.go (c:=cx std [] [] 0) (cx_ok .nil .nil) mixed Tryz.func61 rfl rfl rfl (by kernel_rfl) ?_
 rintro code hp
 refine⟨rfl,?_⟩
 generalize hP:std=p
 cbv
 repeat' first
  | (refine fun (_:Unit)=>?_;cbv)
  | (refine aI2 (fun h=>?_) (fun h=>?_)<;>cbv)
  | (refine aI2 ?_ ?_)
  | (refine Or.inl (fun (_:Unit)=>?_);cbv)
 all_goals subst hP
 all_goals try exact fin
def rGI:NRes (Gm×Int):=⟨fun _ l=>match l with
 | [.agg c,.i .i64 n]=>both' (gmOf c) (some n)
 | _=>none,fun _=>[],fun a=>.tup [.agg (gmR a.1),.i .i64 a.2]⟩
def sp_s_DrawUnseenBy (_:Pr):NSpec:=nsp (mN (a1 aY)) (fun code=>CdP code) (fun code=>rGI) (fun code (x,n)=>BeB x)
theorem ok_s_DrawUnseenBy:NOk Tryz.prog 17 (sp_s_DrawUnseenBy std):=by
 refine NOk.go (c:=cxN std [(61,sp_s_l00From std)] [(64,sp_s_xl00Src_pick std)] [(87,sp_s_l18Bent std)] 0 (if false then some stdU else none) []) (cxN_ok (.cons ok_s_l00From .nil) (.cons ok_s_xl00Src_pick .nil) (.cons ok_s_l18Bent .nil)) mixed Tryz.func17 rfl rfl (by kernel_rfl) ?_
 rintro code hp
 refine⟨rfl,?_⟩
 unfold sp_s_l00From sp_s_l18Bent sp_s_xl00Src_pick
 generalize hP:std=p,hB0:far=B0,hB1:pkV=B1,hB2:pkS=B2
 cbv
 repeat' first
  | (refine fun (_:Unit)=>?_;cbv)
  | (refine fun (y:Nd _) hy=>?_;cbv)
  | (refine aI2 (fun h=>?_) (fun h=>?_)<;>cbv)
  | (refine aI2 ?_ ?_)
  | (refine Or.inl (fun (_:Unit)=>?_);cbv)
 all_goals subst hP hB0 hB1 hB2
 all_goals try exact fin
 ·exact hp.s (by decide)
 ·exact (hy.1.s 0 (hp.s (Int.le_refl 0))).le (by decide)
 ·have h9:=pk_bd (hy.1.s 0 (hp.s (Int.le_refl 0))) (n:=4)
  have h8:pkV y.x.1 4<4:=h9.2.1 (by decide)
  have h7:0≤pkV y.x.1 4:=h9.1
  exact in64 (by show _≤pkV y.x.1 4-1∧pkV y.x.1 4-1≤_;omega)
 ·exact hy.2
end Ax
namespace Ax
set_option maxRecDepth 100000
set_option maxHeartbeats 2000000
def sp_s_l00Same (p:Pr):FSpec:=fsp (ac aN (a1 aN)) (fun (a,b)=>p.leP (p.len a) 1073741824) (fun (a,b)=>.b (qeN a b))
theorem ok_s_l00Same:FOk Tryz.prog 78 (sp_s_l00Same std):=by
 refine FOk.go (c:=cx std [] [] 0) (cx_ok .nil .nil) mixed Tryz.func78 rfl rfl rfl (by kernel_rfl) ?_
 rintro ⟨a,b⟩ hp
 dsimp only at hp
 refine⟨rfl,?_⟩
 obtain⟨H,hH⟩ : ∃H:Hd (Int),H=⟨fun k=>0≤k∧k≤a.length∧a.length=b.length∧a.take k.toNat=b.take k.toNat,fun k=>(a.length-k).toNat,(· < ·)⟩:=⟨_,rfl⟩
 have hl : ∀m n,H.lt m n→m<n:=by subst hH;exact fun _ _ h=>h
 generalize hP:std=p,hB0:qeN=B0
 cbv
 repeat' first
  | (refine fun (_:Unit)=>?_;cbv)
  | (refine Or.inr ⟨11,[],[.s 5 (.i .i64)],[],[],H,rfl,hl,?_,fun (k:Int) hk=>?_⟩<;>cbv)
  | (refine aI2 (fun h=>?_) (fun h=>?_)<;>cbv)
  | (refine aI2 ?_ ?_)
 all_goals subst hP hB0 hH
 all_goals clear hl
 all_goals try dsimp only at hk
 all_goals try dsimp only
 all_goals try exact fin
 ·show (a==b)=false
  exact beq_eq_false_iff_ne.2 fun e=>beq_eq_false_iff_ne.1 (show ((a.length:Int)==(b.length:Int))=false from h) (by rw [e])
 all_goals obtain⟨q0,q1,q2,q3⟩:=hk
 ·show (a==b)=false
  exact beq_eq_false_iff_ne.2 (eq_no (d:=0) (k:=k) (beq_eq_false_iff_ne.1 (show (a.getD k.toNat 0==b.getD k.toNat 0)=false from h)))
 ·have hlt:k<(a.length:Int):=lt_of ‹_›
  exact⟨by show 0≤k+1;omega,by show k+1≤(a.length:Int);omega,q2,eq_tk q0 hlt q2 q3 (beq_iff_eq.1 (show (a.getD k.toNat 0==b.getD k.toNat 0)=true from h))⟩
 ·show (a==b)=true
  exact beq_iff_eq.2 (eq_al (ge_of h) q2 q3)
def sp_s_l05Same (p:Pr):FSpec:=fsp (ac aW (a1 aW)) (fun (a,b)=>p.leP (p.len a) 1073741824) (fun (a,b)=>.b (qeW a b))
theorem ok_s_l05Same:FOk Tryz.prog 77 (sp_s_l05Same std):=by
 refine FOk.go (c:=cx std [] [] 0) (cx_ok .nil .nil) mixed Tryz.func77 rfl rfl rfl (by kernel_rfl) ?_
 rintro ⟨a,b⟩ hp
 dsimp only at hp
 refine⟨rfl,?_⟩
 obtain⟨H,hH⟩ : ∃H:Hd (Int),H=⟨fun k=>0≤k∧k≤a.length∧a.length=b.length∧a.take k.toNat=b.take k.toNat,fun k=>(a.length-k).toNat,(· < ·)⟩:=⟨_,rfl⟩
 have hl : ∀m n,H.lt m n→m<n:=by subst hH;exact fun _ _ h=>h
 generalize hP:std=p,hB0:qeW=B0
 cbv
 repeat' first
  | (refine fun (_:Unit)=>?_;cbv)
  | (refine Or.inr ⟨11,[],[.s 5 (.i .i64)],[],[],H,rfl,hl,?_,fun (k:Int) hk=>?_⟩<;>cbv)
  | (refine aI2 (fun h=>?_) (fun h=>?_)<;>cbv)
  | (refine aI2 ?_ ?_)
 all_goals subst hP hB0 hH
 all_goals clear hl
 all_goals try dsimp only at hk
 all_goals try dsimp only
 all_goals try exact fin
 ·show (a==b)=false
  exact beq_eq_false_iff_ne.2 fun e=>beq_eq_false_iff_ne.1 (show ((a.length:Int)==(b.length:Int))=false from h) (by rw [e])
 all_goals obtain⟨q0,q1,q2,q3⟩:=hk
 ·show (a==b)=false
  exact beq_eq_false_iff_ne.2 (eq_no (d:=[]) (k:=k) (beq_eq_false_iff_ne.1 (show (a.getD k.toNat []==b.getD k.toNat [])=false from h)))
 ·have hlt:k<(a.length:Int):=lt_of ‹_›
  exact⟨by show 0≤k+1;omega,by show k+1≤(a.length:Int);omega,q2,eq_tk q0 hlt q2 q3 (beq_iff_eq.1 (show (a.getD k.toNat []==b.getD k.toNat [])=true from h))⟩
 ·show (a==b)=true
  exact beq_iff_eq.2 (eq_al (ge_of h) q2 q3)
def bigB (l:List Int):Bool:=decide ((4096:Int)<l.length)
def sp_l_f6big (p:Pr):FSpec:=fsp (a1 aY) (fun l=>True) (fun l=>.b (bigB l))
theorem ok_l_f6big:FOk Tryz.prog 9 (sp_l_f6big std):=by
 refine FOk.go (c:=cx std [] [] 0) (cx_ok .nil .nil) mixed Tryz.func9 rfl rfl rfl (by kernel_rfl) ?_
 rintro l hp
 refine⟨rfl,?_⟩
 generalize hP:std=p,hB0:bigB=B0
 cbv
 repeat' first
  | (refine fun (_:Unit)=>?_;cbv)
  | (refine aI2 (fun h=>?_) (fun h=>?_)<;>cbv)
  | (refine aI2 ?_ ?_)
  | (refine Or.inl (fun (_:Unit)=>?_);cbv)
 all_goals subst hP hB0
 all_goals try exact fin
def sp_s_l02Same (p:Pr):FSpec:=fsp (ac (aP aTs) (a1 (aP aTs))) (fun (a,b)=>TsN a) (fun (a,b)=>.b (qeTs a b))
theorem ok_s_l02Same:FOk Tryz.prog 76 (sp_s_l02Same std):=by
 refine FOk.go (c:=cx std [(78,sp_s_l00Same std)] [] 0) (cx_ok (.cons ok_s_l00Same .nil) .nil) mixed Tryz.func76 rfl rfl rfl (by kernel_rfl) ?_
 rintro ⟨a,b⟩ hp
 dsimp only at hp
 refine⟨rfl,?_⟩
 unfold sp_s_l00Same
 generalize hP:std=p,hB0:qeTs=B0,hB1:qeN=B1
 cbv
 repeat' first
  | (refine fun (_:Unit)=>?_;cbv)
  | (refine aI2 (fun h=>?_) (fun h=>?_)<;>cbv)
  | (refine aI2 ?_ ?_)
  | (refine Or.inl (fun (_:Unit)=>?_);cbv)
 all_goals subst hP hB0 hB1
 all_goals try exact fin
 all_goals (try simp only [sd_eqI,sd_eqS,sd_eqB,eta_ts,eta_bd,eta_pl,eta_la,eta_su] at *)
 all_goals first
  | exact hp.v
  | exact hp.c
  | (simp_all [qeTs];done)
def sp_s_SameGame (p:Pr):FSpec:=fsp (ac (aA aGm) (a1 (aA aGm))) (fun (a,b)=>GmN a∧a=b) (fun (a,b)=>.b true)
theorem ok_s_SameGame:FOk Tryz.prog 13 (sp_s_SameGame std):=by
 refine FOk.go (c:=cx std [(76,sp_s_l02Same std),(77,sp_s_l05Same std),(78,sp_s_l00Same std)] [] 0) (cx_ok (.cons ok_s_l02Same (.cons ok_s_l05Same (.cons ok_s_l00Same .nil))) .nil) mixed Tryz.func13 rfl rfl rfl (by kernel_rfl) ?_
 rintro ⟨a,b⟩ hp
 dsimp only at hp
 refine⟨rfl,?_⟩
 unfold sp_s_l02Same sp_s_l05Same sp_s_l00Same
 generalize hP:std=p,hB0:qeTs=B0,hB1:qeW=B1,hB2:qeN=B2
 cbv
 repeat' first
  | (refine fun (_:Unit)=>?_;cbv)
  | (refine aI2 (fun h=>?_) (fun h=>?_)<;>cbv)
  | (refine aI2 ?_ ?_)
  | (refine Or.inl (fun (_:Unit)=>?_);cbv)
 all_goals subst hP hB0 hB1 hB2
 all_goals try exact fin
 all_goals obtain⟨hn,rfl⟩:=hp
 all_goals try simp only [qeTs_r,qeW_r,qeN_r,eta_ts,eta_bd,eta_la,eta_pl] at *
 all_goals try (rename (_=!true)=>hh;cases hh)
 all_goals try (rename (true=false)=>hh;cases hh)
 all_goals try (rename (_=false)=>hh;simp at hh;done)
 ·exact hn.su.ts
 ·exact hn.su.l
 ·exact hn.r
 ·exact hn.s
 ·exact hn.k
def rSC:NRes (List UInt8×Int):=⟨fun _ l=>match l with
 | [.s L,.i .i64 c]=>some (L,c)
 | _=>none,fun _=>[],fun x=>.tup [.s x.1,.i .i64 x.2]⟩
end Ax
namespace Ax
set_option maxRecDepth 100000
set_option maxHeartbeats 2000000
structure CbP (l:List Int):Prop where
 b : ∀x∈l,0≤x∧x≤255
 n:(l.length:Int)≤9223372036854775807
theorem CbP.d {l:List Int} (h:CbP l) (hb:bigB l=false):CdP l:=⟨h.b,by have h1:=of_decide_eq_false hb;omega⟩
theorem eta_gmz (g:Gm):Gm.mk g.ts g.lex g.bd0 g.secs g.rule g.bd g.bag g.racks g.scores g.clocks g.player g.zeros g.last g.over=g:=rfl
def sp_s_ValidSetup (p:Pr):FSpec:=fsp (a1 (aA aSu)) (fun u=>SuL u) (fun u=>.b (suB u))
theorem ok_s_ValidSetup:FOk Tryz.prog 15 (sp_s_ValidSetup std):=by
 refine FOk.go (c:=cx std [(72,sp_s_l18Setup std)] [] 0) (cx_ok (.cons ok_s_l18Setup .nil) .nil) mixed Tryz.func15 rfl rfl rfl (by kernel_rfl) ?_
 rintro u hp
 refine⟨rfl,?_⟩
 unfold sp_s_l18Setup
 generalize hP:std=p,hB0:suB=B0
 cbv
 repeat' first
  | (refine fun (_:Unit)=>?_;cbv)
  | (refine aI2 (fun h=>?_) (fun h=>?_)<;>cbv)
  | (refine aI2 ?_ ?_)
  | (refine Or.inl (fun (_:Unit)=>?_);cbv)
 all_goals subst hP hB0
 all_goals try exact fin
def sp_s_ValidGame (p:Pr):FSpec:=fsp (a1 (aA aGm)) (fun g=>GmL g) (fun g=>.b (gameB g))
theorem ok_s_ValidGame:FOk Tryz.prog 20 (sp_s_ValidGame std):=by
 refine FOk.go (c:=cx std [(88,sp_s_l18Ok std)] [] 0) (cx_ok (.cons ok_s_l18Ok .nil) .nil) mixed Tryz.func20 rfl rfl rfl (by kernel_rfl) ?_
 rintro g hp
 refine⟨rfl,?_⟩
 unfold sp_s_l18Ok
 generalize hP:std=p,hB0:gameB=B0
 cbv
 repeat' first
  | (refine fun (_:Unit)=>?_;cbv)
  | (refine aI2 (fun h=>?_) (fun h=>?_)<;>cbv)
  | (refine aI2 ?_ ?_)
  | (refine Or.inl (fun (_:Unit)=>?_);cbv)
 all_goals subst hP hB0
 all_goals try exact fin
def usC (g:Gm) (p:Int):Int:=if gameB g=true then (if inR p 0 1=true then 0 else 2) else 1
def usV (g:Gm) (p:Int):List UInt8:=if gameB g=true then (if inR p 0 1=true then isort (g.bag++g.rk (1-p)) else []) else []
theorem us_i {g:Gm} (h:gameB g=false) (p:Int):usV g p=[]∧usC g p=1:=⟨if_neg (by rw [h];decide),if_neg (by rw [h];decide)⟩
theorem us_r {g:Gm} {p:Int} (h:gameB g=true) (k:inR p 0 1=false):usV g p=[]∧usC g p=2:=⟨(if_pos h).trans (if_neg (by rw [k];decide)),(if_pos h).trans (if_neg (by rw [k];decide))⟩
theorem us_y {g:Gm} {p:Int} (h:gameB g=true) (k:inR p 0 1=true):usV g p=isort (g.bag++g.rk (1-p))∧usC g p=0:=⟨(if_pos h).trans (if_pos k),(if_pos h).trans (if_pos k)⟩
def sp_i_UnseenBy (p:Pr):FSpec:=fsp (ac (aA aGm) (a1 aI)) (fun (g,p)=>GmQ g) (fun (g,p)=>.tup [.s (usV g p),.i .i64 (usC g p)])
theorem ok_i_UnseenBy:FOk Tryz.prog 18 (sp_i_UnseenBy std):=by
 refine FOk.go (c:=cx std [(16,sp_i_ValidGame std),(83,sp_i_within std),(69,sp_i_sorted std)] [] 0) (cx_ok (.cons ok_i_ValidGame (.cons ok_i_within (.cons ok_i_sorted .nil))) .nil) mixed Tryz.func18 rfl rfl rfl (by kernel_rfl) ?_
 rintro ⟨g,p⟩ hp
 dsimp only at hp
 refine⟨rfl,?_⟩
 unfold sp_i_ValidGame sp_i_within sp_i_sorted
 generalize hP:std=p,hB0:usV=B0,hB1:usC=B1,hB2:gameB=B2,hB3:inR=B3,hB4:pileL=B4,hB5:countsL=B5
 cbv
 repeat' first
  | (refine fun (_:Unit)=>?_;cbv)
  | (refine aI2 (fun h=>?_) (fun h=>?_)<;>cbv)
  | (refine aI2 ?_ ?_)
  | (refine Or.inl (fun (_:Unit)=>?_);cbv)
 all_goals subst hP hB0 hB1 hB2 hB3 hB4 hB5
 all_goals try exact fin
 ·exact (us_i (g:=g) ‹_› p).1.symm
 ·exact (us_i (g:=g) ‹_› p).2.symm
 ·exact (us_r (g:=g) ‹_› ‹_›).1.symm
 ·exact (us_r (g:=g) ‹_› ‹_›).2.symm
 all_goals have hv:=gv_of (g:=g) ‹_›
 all_goals have hq:=in_bd (a:=p) ‹_›
 all_goals have hr:=rack_len (rk_at hv (1-p).toNat (by omega))
 all_goals have hb:=bag_len hv.bag
 ·exact in64 (by show _≤1-p∧1-p≤_;omega)
 ·exact⟨by show 0≤1-p;omega,by show 1-p<(g.racks.length:Int);rw [hv.rl];omega⟩
 ·exact in64 (by show _≤(g.bag.length:Int)+((g.racks.getD (1-p).toNat []).length : Int)∧(g.bag.length:Int)+((g.racks.getD (1-p).toNat []).length : Int)≤_;omega)
 all_goals have hall:=all_app (bagB_tiles hv.bag) (rackB_asc (rk_at hv (1-p).toNat (by omega))).1
 ·refine⟨hall,?_⟩
  show (g.bag++g.racks.getD (1-p).toNat []).length ≤1000000
  rw [List.length_append];omega
 ·exact (sort_pile hall).trans (us_y (g:=g) ‹_› ‹_›).1.symm
 ·exact (us_y (g:=g) ‹_› ‹_›).2.symm
def sp_s_UnseenBy (p:Pr):FSpec:=fsp (ac (aA aGm) (a1 aI)) (fun (g,p)=>GmL g) (fun (g,p)=>.tup [.s (usV g p),.i .i64 (usC g p)])
theorem ok_s_UnseenBy:FOk Tryz.prog 19 (sp_s_UnseenBy std):=by
 refine FOk.go (c:=cx std [(88,sp_s_l18Ok std),(89,sp_s_l00In std),(74,sp_s_l03Sort std)] [] 0) (cx_ok (.cons ok_s_l18Ok (.cons ok_s_l00In (.cons ok_s_l03Sort .nil))) .nil) mixed Tryz.func19 rfl rfl rfl (by kernel_rfl) ?_
 rintro ⟨g,p⟩ hp
 dsimp only at hp
 refine⟨rfl,?_⟩
 unfold sp_s_l18Ok sp_s_l00In sp_s_l03Sort
 generalize hP:std=p,hB0:usV=B0,hB1:usC=B1,hB2:gameB=B2,hB3:inR=B3,hB4:isort=B4
 cbv
 repeat' first
  | (refine fun (_:Unit)=>?_;cbv)
  | (refine aI2 (fun h=>?_) (fun h=>?_)<;>cbv)
  | (refine aI2 ?_ ?_)
  | (refine Or.inl (fun (_:Unit)=>?_);cbv)
 all_goals subst hP hB0 hB1 hB2 hB3 hB4
 all_goals try exact fin
 ·exact (us_i (g:=g) ‹_› p).1.symm
 ·exact (us_i (g:=g) ‹_› p).2.symm
 ·exact (us_r (g:=g) ‹_› ‹_›).1.symm
 ·exact (us_r (g:=g) ‹_› ‹_›).2.symm
 all_goals have hv:=gv_of (g:=g) ‹_›
 all_goals have hq:=in_bd (a:=p) ‹_›
 all_goals have hr:=rack_len (rk_at hv (1-p).toNat (by omega))
 all_goals have hb:=bag_len hv.bag
 ·exact in64 (by show _≤1-p∧1-p≤_;omega)
 ·exact⟨by show 0≤1-p;omega,by show 1-p<(g.racks.length:Int);rw [hv.rl];omega⟩
 ·exact in64 (by show _≤(g.bag.length:Int)+((g.racks.getD (1-p).toNat []).length : Int)∧(g.bag.length:Int)+((g.racks.getD (1-p).toNat []).length : Int)≤_;omega)
 ·show (((g.bag++g.racks.getD (1-p).toNat []).length : Nat):Int)≤274877906944
  rw [List.length_append];omega
 ·exact (us_y (g:=g) ‹_› ‹_›).1.symm
 ·exact (us_y (g:=g) ‹_› ‹_›).2.symm
end Ax
end Go.Proofs.YtjjonmhpgkahoaaGreatDoor
namespace Go.Proofs.YtjjonmhpgkahoaaGreatDoor
open Go.ChangeShapes Go.WideShapes Go.ChangeAt Go.RowKit Go.Joins
set_option maxRecDepth 100000
namespace Ax
theorem flat_by:flatT tyT 6 22=some [.r [.i .u8]]:=by kernel_rfl
theorem vok_by {w:World} {fz:Nat→Prop} {l:List PV} {cs:List Value} (h:VOk w fz [.r [.i .u8]] l cs) : ∃x:List Int,l=[.rsl [.i .u8] x]∧CbP x:=by
 obtain⟨x,_,_,_,rfl, -,z, -,rfl, -⟩:=h
 unfold SzA at z
 refine⟨x,rfl,⟨fun y hy=>?_,z.1⟩⟩
 have h2:=z.2 y hy
 unfold SzE SzEs SzA at h2
 exact h2
theorem law_trueB {f:FuncId} {S:FSpec} (h:FOk Tryz.prog f S) {args:List PV} {pre:Prop} (hs:S args=some ⟨[pre],.b true,[]⟩) (hp:pre) {W:World} (hg:Gl W) {vals:Array Value} (hl:Rs W (e0 W) args vals.toList) :
 Calls Tryz.prog f vals W fun e W'=>e=.returned (.bool true)∧Below W.heap.size W W':=by
 refine (h.run args _ hs (fun p hm=>by rw [List.mem_singleton.1 hm];exact hp) W (e0 W) vals (e0_ok hg) hl).mono ?_
 rintro en w' ⟨u,e',rfl,hP⟩
 have hv:=hP.val
 unfold R at hv
 subst hv
 exact⟨rfl,⟨hP.chg.os,hP.chg.tape,hP.chg.output,hP.chg.size,fun b hb=>hP.chg.block b hb fun ⟨k,hk,_⟩=>hk.elim⟩⟩
end Ax
end Go.Proofs.YtjjonmhpgkahoaaGreatDoor
namespace Go.Proofs.YtjjonmhpgkahoaaGreatDoor
namespace Ax
theorem gm0_n:GmN gm0:=⟨⟨⟨by decide,by decide⟩,by decide⟩,by decide,by decide,by decide⟩
theorem GmB.gq {g:Gm} (h:GmB 1048576 g):GmQ g:=(h.q (q:=⟨0,0,false,[]⟩) (by decide) (by decide)).gm
end Ax
namespace Ax
set_option maxRecDepth 100000
set_option maxHeartbeats 2000000
section
variable {g x:Gm} {k:Int}
end
section
variable {g:Gm} {p:Int}
theorem unseen_all (h:GV g) (hp:0≤p∧p≤1):isort (isort (tilesS (lettersS g.bd)++g.rk p)++isort (g.bag++g.rk (1-p)))=allT g.ts:=by
 have ti:=h.ti
 unfold gameTiles at ti
 rw [←ti]
 refine isort_perm fun c=>?_
 rw [List.count_append,isort_count,isort_count]
 simp only [List.count_append]
 rcases (show p=0∨p=1 by omega) with e | e<;>subst e
 ·show (tilesS (lettersS g.bd)).count c+(g.racks.getD 0 []).count c+(g.bag.count c+(g.racks.getD 1 []).count c)=_
  omega
 ·show (tilesS (lettersS g.bd)).count c+(g.racks.getD 1 []).count c+(g.bag.count c+(g.racks.getD 0 []).count c)=_
  omega
theorem board_tiles {b:Bd} (hb:bdB b=true):(tilesS (lettersS b)).all tileB=true:=by
 unfold bdB at hb
 simp only [Bool.and_eq_true,decide_eq_true_eq] at hb
 obtain⟨-,h2,h3,h4⟩:=hb
 rw [okFrom_eq _ _ (by omega),Bool.and_eq_true] at h4
 unfold tilesS lettersS
 refine isort_all ?_
 rw [List.all_eq_true]
 intro x hx
 obtain⟨y,hy,rfl⟩:=List.mem_map.1 hx
 obtain⟨hy,hn⟩:=List.mem_filter.1 hy
 have h5:=List.all_eq_true.1 h4.2 y hy
 unfold cellB at h5
 have h6:(y==46)=false:=by simpa using hn
 rw [h6,Bool.false_or] at h5
 unfold blankC
 split
 ·rfl
 ·rename_i h7
  rw [Bool.or_eq_true] at h5
  unfold tileB
  rw [h5.resolve_right h7,Bool.or_true]
theorem unseen_ok (h:GV g) (hp:0≤p∧p≤1):(lettersS g.bd).length ≤120∧pileB (tilesS (lettersS g.bd))=true∧pileB (g.rk p)=true∧(tilesS (lettersS g.bd)).length + (g.rk p).length ≤120∧
 pileB (isort (tilesS (lettersS g.bd)++g.rk p))=true∧pileB (isort (g.bag++g.rk (1-p)))=true∧(isort (tilesS (lettersS g.bd)++g.rk p)).length + (isort (g.bag++g.rk (1-p))).length ≤120:=by
 have htl:tsB g.ts=true:=by
  have:=h.su
  unfold setupB at this
  simp only [Bool.and_eq_true] at this
  exact this.1
 have h1:=allT_120 htl
 rw [←unseen_all h hp,isort_length,List.length_append,isort_length,isort_length,List.length_append,List.length_append] at h1
 have hbt:=board_tiles h.bd
 have hr:=rk_p h hp.1 hp.2
 have hr2:=rk_p h (p:=1-p) (by omega) (by omega)
 have hl:(tilesS (lettersS g.bd)).length =(lettersS g.bd).length :=by unfold tilesS;rw [isort_length,List.length_map]
 have hra:=(rackB_asc hr).1
 have hra2:=(rackB_asc hr2).1
 have hba:=bagB_tiles h.bag
 rw [isort_length,isort_length,List.length_append,List.length_append]
 refine⟨by omega,pileB_of hbt (isort_asc _) (by omega),?_,by omega,pileB_of (isort_all (all_app hbt hra)) (isort_asc _) (by rw [isort_length,List.length_append];omega),pileB_of (isort_all (all_app hba hra2)) (isort_asc _) (by rw [isort_length,List.length_append];omega),by omega⟩
 unfold rackB at hr
 rw [Bool.and_eq_true] at hr
 exact hr.1
end
end Ax
namespace Ax
set_option maxRecDepth 100000
set_option maxHeartbeats 20000000
theorem fit_bdp {b:Bd} (h:b.Fit):BdP b:=by
 have h1:=h.lo;have h2:=h.hi;have h3:=h.prem;have h4:=h.cells
 have h5:b.size*b.size≤225:=(Int.mul_le_mul h2 h2 (by omega) (by decide):b.size*b.size≤15*15)
 exact⟨by omega,by omega⟩
theorem tsok_l {t:TS} (h:TsOk t):TsL t:=⟨by have:=h.len;omega,by have:=h.len;have:=h.vals;omega,by have:=h.len;have:=h.cnts;omega⟩
structure TonP (b:Bd):Prop where
 v:bdB b=true
 n:(lettersS b).length ≤120
def sp_i_TilesOn (p:Pr):FSpec:=fsp (a1 (aA aBd)) (fun b=>TonP b) (fun b=>.tup [.s (tilesS (lettersS b)),.i .i64 0])
theorem ok_i_TilesOn:FOk Tryz.prog 21 (sp_i_TilesOn std):=by
 refine FOk.go (c:=cx std [(81,sp_i_ValidBoard std),(90,sp_i_Board_lettersOn std),(91,sp_i_tilesOf std)] [] 0) (cx_ok (.cons ok_i_ValidBoard (.cons ok_i_Board_lettersOn (.cons ok_i_tilesOf .nil))) .nil) mixed Tryz.func21 rfl rfl rfl (by kernel_rfl) ?_
 rintro b hp
 refine⟨rfl,?_⟩
 unfold sp_i_ValidBoard sp_i_Board_lettersOn sp_i_tilesOf
 generalize hP:std=p,hB0:lettersS=B0,hB1:tilesS=B1,hB2:tilesP=B2,hB3:bdB=B3
 cbv
 repeat' first
  | (refine fun (_:Unit)=>?_;cbv)
  | (refine aI2 (fun h=>?_) (fun h=>?_)<;>cbv)
  | (refine aI2 ?_ ?_)
  | (refine Or.inl (fun (_:Unit)=>?_);cbv)
 all_goals subst hP hB0 hB1 hB2 hB3
 all_goals try exact fin
 all_goals (try simp only [eta_bd] at *)
 all_goals have hf:=bdB.fit hp.v
 all_goals try exact (by rename bdB b=false=>hh;rw [hp.v] at hh;cases hh)
 all_goals have hn:=hp.n
 ·exact fit_bdp hf
 ·exact hf
 all_goals try exact (by rename std.ltI 120 _=true=>hh;have h2:(120:Int)<((lettersS b).length : Int):=lt_of hh;omega)
 ·exact⟨cells_lett hp.v,by omega⟩
 ·show pileL (countsL ((lettersS b).map blankC))=isort ((lettersS b).map blankC)
  exact sort_pile (blank_tiles (cells_lett hp.v))
structure AddP (a b:List UInt8):Prop where
 pa:pileB a=true
 pb:pileB b=true
 n:a.length+b.length≤120
theorem AddP.all {a b:List UInt8} (h:AddP a b):(a++b).all tileB=true:=all_app (pileB_asc h.pa).1 (pileB_asc h.pb).1
def sp_i_AddTiles (p:Pr):FSpec:=fsp (ac aS (a1 aS)) (fun (a,b)=>AddP a b) (fun (a,b)=>.tup [.s (isort (a++b)),.i .i64 0])
theorem ok_i_AddTiles:FOk Tryz.prog 22 (sp_i_AddTiles std):=by
 refine FOk.go (c:=cx std [(92,sp_i_ValidPile std),(69,sp_i_sorted std)] [] 0) (cx_ok (.cons ok_i_ValidPile (.cons ok_i_sorted .nil)) .nil) mixed Tryz.func22 rfl rfl rfl (by kernel_rfl) ?_
 rintro ⟨a,b⟩ hp
 dsimp only at hp
 refine⟨rfl,?_⟩
 unfold sp_i_ValidPile sp_i_sorted
 generalize hP:std=p,hB0:isort=B0,hB1:pileB=B1,hB2:pileL=B2,hB3:countsL=B3
 cbv
 repeat' first
  | (refine fun (_:Unit)=>?_;cbv)
  | (refine aI2 (fun h=>?_) (fun h=>?_)<;>cbv)
  | (refine aI2 ?_ ?_)
  | (refine Or.inl (fun (_:Unit)=>?_);cbv)
 all_goals subst hP hB0 hB1 hB2 hB3
 all_goals try exact fin
 all_goals have hn:=hp.n
 all_goals try exact (by rename pileB a=!true=>hh;rw [hp.pa] at hh;cases hh)
 all_goals try exact (by rename pileB a=false=>hh;rw [hp.pa] at hh;cases hh)
 all_goals try exact (by rename pileB b=false=>hh;rw [hp.pb] at hh;cases hh)
 all_goals try exact (by rename std.ltI 120 _=true=>hh;have h2:(120:Int)<(a.length:Int)+(b.length:Int):=lt_of hh;omega)
 ·show (a.length:Int)≤274877906944;omega
 ·show (b.length:Int)≤274877906944;omega
 ·exact in64 (by show _≤(a.length:Int)+(b.length:Int)∧(a.length:Int)+(b.length:Int)≤_;omega)
 ·exact⟨hp.all,by show (a++b).length ≤1000000;rw [List.length_append];omega⟩
 ·exact sort_pile hp.all
def sp_i_AllTiles (p:Pr):FSpec:=fsp (a1 (aA aTs)) (fun t=>tsB t=true) (fun t=>.tup [.s (allT t),.i .i64 0])
theorem ok_i_AllTiles:FOk Tryz.prog 23 (sp_i_AllTiles std):=by
 refine FOk.go (c:=cx std [(79,sp_i_ValidTiles std),(70,sp_i_allTiles std)] [] 0) (cx_ok (.cons ok_i_ValidTiles (.cons ok_i_allTiles .nil)) .nil) mixed Tryz.func23 rfl rfl rfl (by kernel_rfl) ?_
 rintro t hp
 refine⟨rfl,?_⟩
 unfold sp_i_ValidTiles sp_i_allTiles
 generalize hP:std=p,hB0:allT=B0,hB1:tsB=B1
 cbv
 repeat' first
  | (refine fun (_:Unit)=>?_;cbv)
  | (refine aI2 (fun h=>?_) (fun h=>?_)<;>cbv)
  | (refine aI2 ?_ ?_)
  | (refine Or.inl (fun (_:Unit)=>?_);cbv)
 all_goals subst hP hB0 hB1
 all_goals try exact fin
 ·exact tsok_l (tsB_ok hp)
 ·obtain⟨h1,h2,h3⟩:=tsB_all hp
  exact⟨h1,h2,h3⟩
end Ax
namespace Ax
theorem NOk.ofF {P:Program} {g:FuncId} {α β:Type} {A:Args α} {pre:α→Prop} {B:NRes β} {f:α→β} {v:α→PV} (h:FOk P g (fsp A pre v)) (hv : ∀a,v a=B.v (f a)) (hB : ∀x,B.eh x=[]):NOk P g (nsp (mN A) pre (fun _=>B) (fun a x=>x=f a)):=by
 refine⟨h.fn,fun H args out hs hp w e vals hz hob hon hlv hbd hdis hl=>?_⟩
 unfold nsp at hs
 split at hs
 ·rename_i a ha
  cases hs
  unfold mN at ha
  dsimp only at ha
  split at ha
  ·have he:({ e with on:=fun _=>False,lv:=fun _=>False } : Env)=e:=by
    have h1:(fun _:Nat=>False)=e.on:=funext fun k=>propext ⟨fun h=>h.elim,fun h=>absurd ((hon k).1 h) (Nat.not_lt_zero k)⟩
    have h2:(fun _:Nat=>False)=e.lv:=funext fun k=>propext ⟨fun h=>h.elim,fun h=>absurd ((hlv k).1 h) (Nat.not_lt_zero k)⟩
    show (⟨e.adr,e.cap,e.len,e.fz,fun _=>False,fun _=>False⟩:Env)=⟨e.adr,e.cap,e.len,e.fz,e.on,e.lv⟩
    rw [←h1,←h2]
   have hS:(fsp A pre v:FSpec) args=some ⟨[pre a],v a,[]⟩:=by unfold fsp;rw [ha]
   refine (h.run args _ hS (fun q hq=>hp q hq) w e vals hz hl).mono ?_
   rintro en w' ⟨u,e',hu,hP⟩
   rw [he,hv] at hP
   refine⟨f a,rfl,u,e',hu,?_⟩
   show Post w w' e e' 0 ⟨[],B.v (f a),B.eh (f a)⟩ u
   rw [hB]
   exact⟨hP.val,hP.le,hP.fz,hP.eff,hP.new,hP.nlv,hP.klv,hP.dis,hP.chg⟩
  ·cases ha
 ·cases hs
theorem pr_eq {α β:Type} {a:α} {b:β} {p:α×β} (h:(a,b)=p):a=p.1∧b=p.2:=by subst h;exact⟨rfl,rfl⟩
end Ax
namespace Ax
set_option maxRecDepth 100000
set_option maxHeartbeats 20000000
def set0 (l:List UInt8):List UInt8:=l.set 0 97
def scB (b:Bd):Bd:=if bdB b then ⟨b.size,b.prem,set0 b.cells⟩ else ⟨0,[],[]⟩
def scC (b:Bd):Int:=if bdB b then 0 else 1
structure SetP1 (b:Bd) (r c x:Int):Prop where
 r:r=0
 c:c=0
 x:x=97
 n:0<b.cells.length
 bd:BdP b
def sp_s_l11Set (p:Pr):FSpec:=fsp (ac (aP aBd) (ac aI (ac aI (a1 aC)))) (fun (b,r,c,x)=>SetP1 b r c x) (fun (b,r,c,x)=>.agg (bdK ⟨b.size,b.prem,set0 b.cells⟩))
theorem ok_s_l11Set:FOk Tryz.prog 162 (sp_s_l11Set std):=by
 refine FOk.go (c:=cx std [] [] 0) (cx_ok .nil .nil) mixed Tryz.func162 rfl rfl rfl (by kernel_rfl) ?_
 rintro ⟨b,r,c,x⟩ hp
 dsimp only at hp
 obtain⟨rfl,rfl,rfl,hn,hb⟩:=hp
 all_goals
  refine⟨rfl,?_⟩
  generalize hP:std=p,hB0:set0=B0
  cbv
  repeat' first
   | (refine fun (_:Unit)=>?_;cbv)
   | (refine aI2 (fun h=>?_) (fun h=>?_)<;>cbv)
   | (refine aI2 ?_ ?_)
   | (refine Or.inl (fun (_:Unit)=>?_);cbv)
 all_goals subst hP hB0
 all_goals try exact fin
 ·show toSl ((toBl b.cells).set (0*b.size+0).toNat 97)=set0 b.cells
  rw [Int.zero_mul,show ((0:Int)+0).toNat =0 from rfl,show (97:Int)=(((97:UInt8).toNat : Nat):Int) from rfl,toB_set,toS_toB];rfl
section
variable {b:Bd}
theorem sc_f (h:bdB b=false):scB b=⟨0,[],[]⟩:=by unfold scB;rw [h];rfl
theorem sc_c (h:bdB b=false):scC b=1:=by unfold scC;rw [h];rfl
theorem sc_t (h:bdB b=true):scB b=⟨b.size,b.prem,set0 b.cells⟩:=if_pos h
theorem sc_d (h:bdB b=true):scC b=0:=if_pos h
theorem sc_in (h:b.Fit):b.inB 0 0=true:=by rw [inB_iff];have:=h.lo;omega
end
structure ScP1 (b:Bd) (r c x:Int):Prop where
 r:r=0
 c:c=0
 x:x=97
 bd:BdP b
def sp_s_SetCell (p:Pr):FSpec:=fsp (ac (aA aBd) (ac aI (ac aI (a1 aC)))) (fun (b,r,c,x)=>ScP1 b r c x) (fun (b,r,c,x)=>.tup [.agg (bdK (scB b)),.i .i64 (scC b)])
theorem ok_s_SetCell:FOk Tryz.prog 67 (sp_s_SetCell std):=by
 refine FOk.go (c:=cx std [(159,sp_s_l11Ok std),(160,sp_s_l11In std),(161,sp_s_l11Cell std),(162,sp_s_l11Set std)] [] 0) (cx_ok (.cons ok_s_l11Ok (.cons ok_s_l11In (.cons ok_s_l11Cell (.cons ok_s_l11Set .nil)))) .nil) mixed Tryz.func67 rfl rfl rfl (by kernel_rfl) ?_
 rintro ⟨b,r,c,x⟩ hp
 dsimp only at hp
 obtain⟨rfl,rfl,rfl,hb⟩:=hp
 all_goals
  refine⟨rfl,?_⟩
  unfold sp_s_l11Ok sp_s_l11In sp_s_l11Cell sp_s_l11Set
  generalize hP:std=p,hB0:scB=B0,hB1:scC=B1,hB2:bdB=B2,hB3:Bd.inB=B3,hB4:cellI=B4,hB5:set0=B5
  cbv
  repeat' first
   | (refine fun (_:Unit)=>?_;cbv)
   | (refine aI2 (fun h=>?_) (fun h=>?_)<;>cbv)
   | (refine aI2 ?_ ?_)
   | (refine Or.inl (fun (_:Unit)=>?_);cbv)
 all_goals subst hP hB0 hB1 hB2 hB3 hB4 hB5
 all_goals try exact fin
 all_goals (try simp only [eta_bd] at *)
 all_goals try (rw [sc_f ‹_›])
 all_goals try (rw [sc_c ‹_›])
 all_goals try (have hf:=bdB.fit (by assumption:bdB b=true);have h0:=sc_in hf)
 all_goals try (rename b.inB 0 0=false=>hh;rw [h0] at hh;cases hh)
 all_goals try (rename cellI 97=false=>hh;cases hh)
 all_goals try rw [sc_t ‹_›]
 all_goals try rw [sc_d ‹_›]
 ·exact in64 (by have:=hf.lo;have:=hf.hi;show _≤b.size-1∧b.size-1≤_;omega)
 ·exact⟨rfl,rfl,rfl,by have hc:=hf.cells;have hl:=hf.lo;have hh:=hf.hi;have h9:25≤b.size*b.size:=(Int.mul_le_mul hl hl (by decide) (by omega):5*5≤b.size*b.size);omega,hb⟩
end Ax
namespace Ax
set_option maxRecDepth 100000
set_option maxHeartbeats 20000000
structure StB (u:Su) (b:List UInt8):Prop where
 su:SuB 1048576 u
 n:b.length≤200
theorem sdl_b {u:Su} {σ:Src} (h:DrSu u):14≤(sdB σ u).length ∧(sdB σ u).length ≤30:=by
 unfold sdB
 rw [shufL_len]
 exact⟨h.all.2.2.1,h.all.2.2.2⟩
def aeT (v:Int):TS:=⟨[97,101],[1,1],[7,6+v],0⟩
theorem valT_ae (n:Int) (c:UInt8):valT (aeT n) c=valT (aeT 0) c:=rfl
theorem ae_ok:TsOk (aeT 0):=tsB_ok (by decide +kernel)
theorem ae_all {v:Int} (h:0≤v∧v<2):AllP (aeT v):=by
 refine⟨⟨ae_ok.len,ae_ok.vals,rfl,fun c=>?_,fun c=>?_⟩,(by decide:(0:Int)≤4),fun k=>?_⟩
 ·rw [valT_ae];exact ae_ok.lo c
 ·rw [valT_ae];exact ae_ok.hi c
 ·rcases k with _ | _ | k
  ·show (7:Int)≤20;decide
  ·show 6+v≤20;omega
  ·show (0:Int)≤20;decide
theorem ae_b (v:Int):TsB 1048576 (aeT v):=⟨(by decide:(2:Int)≤1048576),(by decide:(2:Int)≤1048576),(by decide:(2:Int)≤1048576)⟩
theorem ae_len {v:Int} (h:0≤v∧v<2):(allT (aeT v)).length ≤200:=by
 rcases (show v=0∨v=1 by omega) with e | e<;>subst e<;>decide +kernel
theorem scB_b {b:Bd} (h:BdB 1048576 b):BdB 1048576 (scB b):=by
 unfold scB
 split
 ·exact⟨h.p,by show (((b.cells.set 0 97).length : Nat):Int)≤_;rw [List.length_set];exact h.c⟩
 ·exact⟨by decide,by decide⟩
def rSt:NRes (Su×List UInt8):=⟨fun _ l=>match l with
 | [.agg c,.s t]=>both' (aSu.rd c) (some t)
 | _=>none,fun _=>[],fun a=>.tup [.agg (aSu.enc a.1),.s a.2]⟩
def sp_s_DrawStartGame (_:Pr):NSpec:=nsp (mN (a1 aY)) (fun code=>CdP code) (fun code=>rSt) (fun code (u,b)=>StB u b)
theorem ok_s_DrawStartGame:NOk Tryz.prog 10 (sp_s_DrawStartGame std):=by
 refine NOk.go (c:=cxN std [(61,sp_s_l00From std),(65,sp_s_l02All std),(67,sp_s_SetCell std)] [(63,sp_s_l18Seed std),(64,sp_s_xl00Src_pick std),(66,sp_amongO std)] [(62,sp_s_l18DrawSetup std)] 0 (if false then some stdU else none) []) (cxN_ok (.cons ok_s_l00From (.cons ok_s_l02All (.cons ok_s_SetCell .nil))) (.cons ok_s_l18Seed (.cons ok_s_xl00Src_pick (.cons ok_amongO .nil))) (.cons ok_s_l18DrawSetup .nil)) mixed Tryz.func10 rfl rfl (by kernel_rfl) ?_
 rintro code hp
 refine⟨rfl,?_⟩
 unfold sp_s_l00From sp_s_l18DrawSetup sp_s_l18Seed sp_s_xl00Src_pick sp_amongO sp_s_l02All sp_s_SetCell
 generalize hP:std=p,hB0:far=B0,hB1:pkV=B1,hB2:pkS=B2,hB3:amV=B3,hB4:sdB=B4,hB5:allT=B5,hB6:scB=B6,hB7:scC=B7
 cbv
 repeat' first
  | (refine fun (_:Unit)=>?_;cbv)
  | (refine fun (y:Nd _) hy=>?_;cbv)
  | (refine aI2 (fun h=>?_) (fun h=>?_)<;>cbv)
  | (refine aI2 ?_ ?_)
  | (refine Or.inl (fun (_:Unit)=>?_);cbv)
 all_goals subst hP hB0 hB1 hB2 hB3 hB4 hB5 hB6 hB7
 all_goals try exact fin
 all_goals try exact Int.NonNeg.mk _
 ·exact hp.s (by decide)
 all_goals have hy:far 20 ⟨code,0,0⟩ y.x.1∧DrSu y.x.2:=hy
 all_goals have s0:=hy.1.s 0 (hp.s (Int.le_refl 0))
 all_goals have s1:=pk_ok s0 60000
 all_goals have hb:=hy.2.b
 all_goals have hl:=sdl_b (σ:=y.x.1) hy.2
 all_goals try exact s0.le (by decide)
 all_goals try exact s1.le (by decide)
 all_goals try exact (pk_ok s1 14).le (by decide)
 ·have hl2:(1:Int)≤((sdB y.x.1 y.x.2).length : Int):=by omega
  exact hl2
 ·refine⟨hb,?_⟩
  show ((sdB y.x.1 y.x.2).drop _).length ≤200
  rw [List.length_drop];omega
 all_goals have h9:=pk_bd (pk_ok s1 14) (n:=2)
 all_goals have h8:pkV (pkS (pkS y.x.1 60000) 14) 2<2:=h9.2.1 (by decide)
 all_goals have h7:0≤pkV (pkS (pkS y.x.1 60000) 14) 2:=h9.1
 ·exact in64 (by show _≤6+pkV (pkS (pkS y.x.1 60000) 14) 2∧6+pkV (pkS (pkS y.x.1 60000) 14) 2≤_;omega)
 ·exact ae_all (v:=pkV (pkS (pkS y.x.1 60000) 14) 2) (by omega)
 ·exact⟨⟨ae_b _,hb.lx,hb.bd⟩,ae_len (v:=pkV (pkS (pkS y.x.1 60000) 14) 2) (by omega)⟩
 ·exact⟨⟨hb.ts,hb.lx,hb.bd⟩,by show (sdB y.x.1 y.x.2).length ≤200;omega⟩
 ·exact⟨rfl,rfl,rfl,bd_p hb.bd (by decide)⟩
 ·exact⟨⟨hb.ts,hb.lx,scB_b hb.bd⟩,by show (sdB y.x.1 y.x.2).length ≤200;omega⟩
 ·exact in64 (by show _≤((sdB y.x.1 y.x.2).length : Int)+1∧((sdB y.x.1 y.x.2).length : Int)+1≤_;omega)
 ·refine⟨hb,?_⟩
  show (sdB y.x.1 y.x.2++[33]).length ≤200
  rw [List.length_append,List.length_singleton];omega
 ·exact⟨hb,by show (sdB y.x.1 y.x.2).length ≤200;omega⟩
end Ax
end Go.Proofs.YtjjonmhpgkahoaaGreatDoor
