/-
  Squares, directions, plays of the impl package: whether a play is valid, its new squares, the board after it.
  Conditions: none.
-/
import Derived.Test.YtjjonmhpgkahoaaGreatDoorS16
set_option linter.unusedSimpArgs false
set_option linter.unusedVariables false
namespace Go.Proofs.YtjjonmhpgkahoaaGreatDoor
namespace Ax
set_option maxRecDepth 100000
set_option maxHeartbeats 2000000
def aE:Args Unit:=a0
def aSq:Args (Int×Int):=ac aI (a1 aI)
def celV (b:Bd) (r c:Int):Int:=(b.cell r c).toNat
def prmV (b:Bd) (r c:Int):Int:=(b.prm r c).toNat
def srI (q:Pl) (n:Int):Int:=q.sr n
def scI (q:Pl) (n:Int):Int:=q.sc n
theorem ix_in {b:Bd} {r c:Int} (hf:b.Fit) (h:b.inB r c=true):(0≤r*b.size∧r*b.size≤225)∧(0≤r*b.size+c∧r*b.size+c<b.cells.length∧r*b.size+c<b.prem.length∧(b.cells.length:Int)≤225):=by
 have h1:=atP_bd ⟨hf,h⟩
 have h2:=hf.prem
 have h3:=hf.cells
 omega
def sp_i_Board_inside (p:Pr):FSpec:=fsp (ac (aA aBd) (ac aI (a1 aI))) (fun (b,r,c)=>b.Fit) (fun (b,r,c)=>.b (b.inB r c))
theorem ok_i_Board_inside:FOk Tryz.prog 257 (sp_i_Board_inside std):=by
 refine FOk.go (c:=cx std [(83,sp_i_within std)] [] 0) (cx_ok (.cons ok_i_within .nil) .nil) mixed Tryz.func257 rfl rfl rfl (by kernel_rfl) ?_
 rintro ⟨b,r,c⟩ hp
 dsimp only at hp
 refine⟨rfl,?_⟩
 unfold sp_i_within
 generalize hP:std=p,hB0:Bd.inB=B0,hB1:inR=B1
 cbv
 repeat' first
  | (refine fun (_:Unit)=>?_;cbv)
  | (refine aI2 (fun h=>?_) (fun h=>?_)<;>cbv)
  | (refine aI2 ?_ ?_)
  | (refine Or.inl (fun (_:Unit)=>?_);cbv)
 all_goals subst hP hB0 hB1
 all_goals try exact fin
 ·exact in64 (by have:=hp.lo;have:=hp.hi;show _≤b.size-1∧b.size-1≤_;omega)
 ·exact in64 (by have:=hp.lo;have:=hp.hi;show _≤b.size-1∧b.size-1≤_;omega)
 ·show inR c 0 (b.size-1)=_
  unfold Bd.inB;rw [show inR r 0 (b.size-1)=true from h];rfl
 ·unfold Bd.inB;rw [show inR r 0 (b.size-1)=false from h];rfl
def sp_i_Board_cell (p:Pr):FSpec:=fsp (ac (aA aBd) (ac aI (a1 aI))) (fun (b,r,c)=>b.Fit) (fun (b,r,c)=>.i .u8 (celV b r c))
theorem ok_i_Board_cell:FOk Tryz.prog 259 (sp_i_Board_cell std):=by
 refine FOk.go (c:=cx std [(257,sp_i_Board_inside std)] [] 0) (cx_ok (.cons ok_i_Board_inside .nil) .nil) mixed Tryz.func259 rfl rfl rfl (by kernel_rfl) ?_
 rintro ⟨b,r,c⟩ hp
 dsimp only at hp
 refine⟨rfl,?_⟩
 unfold sp_i_Board_inside
 generalize hP:std=p,hB0:celV=B0,hB1:Bd.inB=B1
 cbv
 repeat' first
  | (refine fun (_:Unit)=>?_;cbv)
  | (refine aI2 (fun h=>?_) (fun h=>?_)<;>cbv)
  | (refine aI2 ?_ ?_)
  | (refine Or.inl (fun (_:Unit)=>?_);cbv)
 all_goals subst hP hB0 hB1
 all_goals try exact fin
 ·unfold celV Bd.cell;rw [if_neg (by rw [show b.inB r c=false from h];simp)];rfl
 all_goals have f:=ix_in hp (show b.inB r c=true from h)
 ·exact in64 (by show _≤r*b.size∧r*b.size≤_;omega)
 ·exact in64 (by show _≤r*b.size+c∧r*b.size+c≤_;omega)
 ·exact⟨f.2.1,f.2.2.1⟩
 ·unfold celV Bd.cell;rw [if_pos h];rfl
def sp_i_Board_premium (p:Pr):FSpec:=fsp (ac (aA aBd) (ac aI (a1 aI))) (fun (b,r,c)=>b.Fit∧b.inB r c=true) (fun (b,r,c)=>.i .u8 (prmV b r c))
theorem ok_i_Board_premium:FOk Tryz.prog 266 (sp_i_Board_premium std):=by
 refine FOk.go (c:=cx std [] [] 0) (cx_ok .nil .nil) mixed Tryz.func266 rfl rfl rfl (by kernel_rfl) ?_
 rintro ⟨b,r,c⟩ hp
 dsimp only at hp
 refine⟨rfl,?_⟩
 generalize hP:std=p,hB0:prmV=B0
 cbv
 repeat' first
  | (refine fun (_:Unit)=>?_;cbv)
  | (refine aI2 (fun h=>?_) (fun h=>?_)<;>cbv)
  | (refine aI2 ?_ ?_)
  | (refine Or.inl (fun (_:Unit)=>?_);cbv)
 all_goals subst hP hB0
 all_goals try exact fin
 all_goals have f:=ix_in hp.1 hp.2
 ·exact in64 (by show _≤r*b.size∧r*b.size≤_;omega)
 ·exact in64 (by show _≤r*b.size+c∧r*b.size+c≤_;omega)
 ·exact⟨f.2.1,f.2.2.2.1⟩
def sp_i_Board_letter (p:Pr):FSpec:=fsp (ac (aA aBd) (ac aI (a1 aI))) (fun (b,r,c)=>b.Fit) (fun (b,r,c)=>.b (b.let_ r c))
theorem ok_i_Board_letter:FOk Tryz.prog 302 (sp_i_Board_letter std):=by
 refine FOk.go (c:=cx std [(259,sp_i_Board_cell std)] [] 0) (cx_ok (.cons ok_i_Board_cell .nil) .nil) mixed Tryz.func302 rfl rfl rfl (by kernel_rfl) ?_
 rintro ⟨b,r,c⟩ hp
 dsimp only at hp
 refine⟨rfl,?_⟩
 unfold sp_i_Board_cell
 generalize hP:std=p,hB0:celV=B0,hB1:Bd.let_=B1
 cbv
 repeat' first
  | (refine fun (_:Unit)=>?_;cbv)
  | (refine aI2 (fun h=>?_) (fun h=>?_)<;>cbv)
  | (refine aI2 ?_ ?_)
  | (refine Or.inl (fun (_:Unit)=>?_);cbv)
 all_goals subst hP hB0 hB1
 all_goals try exact fin
 ·have h1:celV b r c≠0:=by simpa using h
  have h2:(b.cell r c==0)=false:=by
   rw [←byte_is (n:=0) (m:=0) rfl,beq_eq_false_iff_ne];exact h1
  show (match (celV b r c==46) with | true=>false | false=>true)=_
  unfold Bd.let_
  rw [h2,←byte_is (c:=b.cell r c) (n:=46) (m:=46) rfl]
  show (match (celV b r c==46) with | true=>false | false=>true)=(!false&&!(celV b r c==46))
  cases (celV b r c==46)<;>rfl
 ·have h1:celV b r c=0:=by simpa using h
  have h2:(b.cell r c==0)=true:=by
   rw [←byte_is (n:=0) (m:=0) rfl,beq_iff_eq];exact h1
  unfold Bd.let_
  rw [h2];rfl
def sp_i_Board_on (p:Pr):FSpec:=fsp (ac (aA aBd) (a1 (aA aSq))) (fun (b,s)=>b.Fit) (fun (b,s)=>.b (b.let_ s.1 s.2))
theorem ok_i_Board_on:FOk Tryz.prog 258 (sp_i_Board_on std):=by
 refine FOk.go (c:=cx std [(302,sp_i_Board_letter std)] [] 0) (cx_ok (.cons ok_i_Board_letter .nil) .nil) mixed Tryz.func258 rfl rfl rfl (by kernel_rfl) ?_
 rintro ⟨b,s⟩ hp
 dsimp only at hp
 refine⟨rfl,?_⟩
 unfold sp_i_Board_letter
 generalize hP:std=p,hB0:Bd.let_=B0
 cbv
 repeat' first
  | (refine fun (_:Unit)=>?_;cbv)
  | (refine aI2 (fun h=>?_) (fun h=>?_)<;>cbv)
  | (refine aI2 ?_ ?_)
  | (refine Or.inl (fun (_:Unit)=>?_);cbv)
 all_goals subst hP hB0
 all_goals try exact fin
def sp_i_right_at (p:Pr):FSpec:=fsp (ac (aA aE) (ac aI (ac aI (a1 aI)))) (fun (_u,r,c,n)=>p.inK .i64 (p.add c n)) (fun (_u,r,c,n)=>.agg [.i .i64 r,.i .i64 (p.add c n)])
theorem ok_i_right_at:FOk Tryz.prog 364 (sp_i_right_at std):=by
 refine FOk.go (c:=cx std [] [] 0) (cx_ok .nil .nil) mixed Tryz.func364 rfl rfl rfl (by kernel_rfl) ?_
 rintro ⟨_u,r,c,n⟩ hp
 dsimp only at hp
 refine⟨rfl,?_⟩
 generalize hP:std=p
 cbv
 repeat' first
  | (refine fun (_:Unit)=>?_;cbv)
  | (refine aI2 (fun h=>?_) (fun h=>?_)<;>cbv)
  | (refine aI2 ?_ ?_)
  | (refine Or.inl (fun (_:Unit)=>?_);cbv)
 all_goals subst hP
 all_goals try exact fin
def sp_i_downwards_at (p:Pr):FSpec:=fsp (ac (aA aE) (ac aI (ac aI (a1 aI)))) (fun (_u,r,c,n)=>p.inK .i64 (p.add r n)) (fun (_u,r,c,n)=>.agg [.i .i64 (p.add r n),.i .i64 c])
theorem ok_i_downwards_at:FOk Tryz.prog 362 (sp_i_downwards_at std):=by
 refine FOk.go (c:=cx std [] [] 0) (cx_ok .nil .nil) mixed Tryz.func362 rfl rfl rfl (by kernel_rfl) ?_
 rintro ⟨_u,r,c,n⟩ hp
 dsimp only at hp
 refine⟨rfl,?_⟩
 generalize hP:std=p
 cbv
 repeat' first
  | (refine fun (_:Unit)=>?_;cbv)
  | (refine aI2 (fun h=>?_) (fun h=>?_)<;>cbv)
  | (refine aI2 ?_ ?_)
  | (refine Or.inl (fun (_:Unit)=>?_);cbv)
 all_goals subst hP
 all_goals try exact fin
def dirV:Bool→PV
 | true=>.raw (.iface 289 (.agg ⟨[]⟩))
 | false=>.raw (.iface 290 (.agg ⟨[]⟩))
def sp_i_right_cross (p:Pr):FSpec:=fsp (a1 (aA aE)) (fun _u=>True) (fun _u=>dirV true)
theorem ok_i_right_cross:FOk Tryz.prog 365 (sp_i_right_cross std):=by
 refine FOk.go (c:=cx std [] [] 0) (cx_ok .nil .nil) mixed Tryz.func365 rfl rfl rfl (by kernel_rfl) ?_
 rintro _u hp
 refine⟨rfl,?_⟩
 generalize hP:std=p
 cbv
 repeat' first
  | (refine fun (_:Unit)=>?_;cbv)
  | (refine aI2 (fun h=>?_) (fun h=>?_)<;>cbv)
  | (refine aI2 ?_ ?_)
  | (refine Or.inl (fun (_:Unit)=>?_);cbv)
 all_goals subst hP
 all_goals try exact fin
def sp_i_downwards_cross (p:Pr):FSpec:=fsp (a1 (aA aE)) (fun _u=>True) (fun _u=>dirV false)
theorem ok_i_downwards_cross:FOk Tryz.prog 363 (sp_i_downwards_cross std):=by
 refine FOk.go (c:=cx std [] [] 0) (cx_ok .nil .nil) mixed Tryz.func363 rfl rfl rfl (by kernel_rfl) ?_
 rintro _u hp
 refine⟨rfl,?_⟩
 generalize hP:std=p
 cbv
 repeat' first
  | (refine fun (_:Unit)=>?_;cbv)
  | (refine aI2 (fun h=>?_) (fun h=>?_)<;>cbv)
  | (refine aI2 ?_ ?_)
  | (refine Or.inl (fun (_:Unit)=>?_);cbv)
 all_goals subst hP
 all_goals try exact fin
def sp_i_directionOf (p:Pr):FSpec:=fsp (a1 aB) (fun d=>True) (fun d=>dirV d)
theorem ok_i_directionOf:FOk Tryz.prog 268 (sp_i_directionOf std):=by
 refine FOk.go (c:=cx std [] [] 0) (cx_ok .nil .nil) mixed Tryz.func268 rfl rfl rfl (by kernel_rfl) ?_
 rintro d hp
 cases d
 all_goals
  refine⟨rfl,?_⟩
  generalize hP:std=p
  cbv
  repeat' first
   | (refine fun (_:Unit)=>?_;cbv)
   | (refine aI2 (fun h=>?_) (fun h=>?_)<;>cbv)
   | (refine aI2 ?_ ?_)
   | (refine Or.inl (fun (_:Unit)=>?_);cbv)
 all_goals subst hP
 all_goals try exact fin
structure SqP (q:Pl) (n:Int):Prop where
 r:std.inK .i64 (q.row+n)
 c:std.inK .i64 (q.col+n)
def sp_i_Play_square (p:Pr):FSpec:=fsp (ac (aA aPl) (a1 aI)) (fun (q,n)=>SqP q n) (fun (q,n)=>.agg [.i .i64 (srI q n),.i .i64 (scI q n)])
theorem ok_i_Play_square:FOk Tryz.prog 211 (sp_i_Play_square std):=by
 refine FOk.go (c:=cx std [(268,sp_i_directionOf std),(364,sp_i_right_at std),(362,sp_i_downwards_at std)] [] 0) (cx_ok (.cons ok_i_directionOf (.cons ok_i_right_at (.cons ok_i_downwards_at .nil))) .nil) mixed Tryz.func211 rfl rfl rfl (by kernel_rfl) ?_
 rintro ⟨q,n⟩ hp
 dsimp only at hp
 obtain⟨row,col,dn,wd⟩:=q
 cases dn
 all_goals
  refine⟨rfl,?_⟩
  unfold sp_i_directionOf sp_i_right_at sp_i_downwards_at
  generalize hP:std=p
  cbv
  repeat' first
   | (refine fun (_:Unit)=>?_;cbv)
   | (refine aI2 (fun h=>?_) (fun h=>?_)<;>cbv)
   | (refine aI2 ?_ ?_)
   | (refine Or.inl (fun (_:Unit)=>?_);cbv)
 all_goals subst hP
 all_goals try exact fin
 ·exact hp.c
 ·exact hp.r
theorem fit_step (b:Bd) (q:Pl) (k:Nat):fitTo b q (k+1)=(fitTo b q k&&fitQ b q k):=by
 unfold fitTo
 rw [List.range_succ,List.all_append]
 simp
theorem free_step (b:Bd) (q:Pl) (k:Nat):freeTo b q (k+1)=(freeTo b q k||(cellQ b q k==46)):=by
 unfold freeTo
 rw [List.range_succ,List.any_append]
 simp
theorem fit_no {b:Bd} {q:Pl} {k n:Nat} (h:fitQ b q k=false) (hk:k<n):fitTo b q n=false:=by
 unfold fitTo
 rw [List.all_eq_false]
 exact⟨k,List.mem_range.2 hk,by rw [h];simp⟩
theorem byte_both (c d:UInt8):((c.toNat:Int)==(d.toNat:Int))=(c==d):=byte_is rfl
theorem wordB_len {s:List UInt8} (h:wordB s=true):2≤s.length∧s.length≤12:=by
 unfold wordB placedB inR at h
 simp at h
 omega
theorem Fit_in {b:Bd} (hf:b.Fit) {r c:Int} (h:b.inB r c=true):(0≤r∧r≤14)∧(0≤c∧c≤14):=by
 have h1:=inB_iff.1 h
 have h2:=hf.hi
 omega
theorem sqP_of {q:Pl} {n:Int} (h1 : -1000≤q.row∧q.row≤1000) (h2 : -1000≤q.col∧q.col≤1000) (h3 : -1000≤n∧n≤1000):SqP q n:=
 ⟨in64 (by omega),in64 (by omega)⟩
theorem k_suc {k:Int} (h:0≤k):(std.add k 1).toNat =k.toNat+1:=by show (k+1).toNat =_;omega
theorem vk_cell {b:Bd} {q:Pl} {k:Int} (h:0≤k):celV b (srI q k) (scI q k)=((cellQ b q k.toNat).toNat : Int):=by
 unfold celV srI scI cellQ
 rw [Int.toNat_of_nonneg h]
theorem vk_dot {b:Bd} {q:Pl} {k:Int} {x:Bool} (h0:0≤k) (h:std.eqI (celV b (srI q k) (scI q k)) 46=x):(cellQ b q k.toNat==46)=x:=by
 rw [←h,vk_cell h0]
 exact (byte_is (n:=46) (m:=46) rfl).symm
theorem vk_let {b:Bd} {q:Pl} {k:Int} {x:Bool} (h0:0≤k) (h:std.eqI (celV b (srI q k) (scI q k)) (std.byte q.word k)=x):(cellQ b q k.toNat==q.word.getD k.toNat 0)=x:=by
 rw [←h,vk_cell h0]
 exact (byte_both _ _).symm
theorem valid_eq {b:Bd} {q:Pl} (h1:wordB q.word=true) (h2:b.inB q.row q.col=true) (h3:b.inB (srI q (std.sub (std.lenS q.word) 1)) (scI q (std.sub (std.lenS q.word) 1))=true) (h4:b.let_ (srI q (-1)) (scI q (-1))=false) (h5:b.let_ (srI q (std.lenS q.word)) (scI q (std.lenS q.word))=false) :
 validI b q=(fitTo b q q.word.length&&freeTo b q q.word.length):=by
 have h3:b.inB (q.sr ((q.word.length:Int)-1)) (q.sc ((q.word.length:Int)-1))=true:=h3
 have h4:b.let_ (q.sr (-1)) (q.sc (-1))=false:=h4
 have h5:b.let_ (q.sr q.word.length) (q.sc q.word.length)=false:=h5
 unfold validI
 rw [h1,h2,h3,h4,h5]
 simp
def sp_i_Play_validOn (p:Pr):FSpec:=fsp (ac (aA aPl) (a1 (aA aBd))) (fun (q,b)=>b.Fit∧p.leP (p.lenS q.word) 1073741824) (fun (q,b)=>.b (validI b q))
theorem ok_i_Play_validOn:FOk Tryz.prog 202 (sp_i_Play_validOn std):=by
 refine FOk.go (c:=cx std [(256,sp_i_isMain std),(257,sp_i_Board_inside std),(211,sp_i_Play_square std),(258,sp_i_Board_on std),(259,sp_i_Board_cell std)] [] 0) (cx_ok (.cons ok_i_isMain (.cons ok_i_Board_inside (.cons ok_i_Play_square (.cons ok_i_Board_on (.cons ok_i_Board_cell .nil))))) .nil) mixed Tryz.func202 rfl rfl rfl (by kernel_rfl) ?_
 rintro ⟨q,b⟩ hp
 dsimp only at hp
 refine⟨rfl,?_⟩
 unfold sp_i_isMain sp_i_Board_inside sp_i_Play_square sp_i_Board_on sp_i_Board_cell
 obtain⟨H,hH⟩ : ∃H:Hd (Int×Bool),H=⟨fun (k,fr)=>0≤k∧k≤q.word.length∧fitTo b q k.toNat=true∧fr=freeTo b q k.toNat,fun (k,fr)=>(q.word.length-k).toNat,(· < ·)⟩:=⟨_,rfl⟩
 have hl : ∀m n,H.lt m n→m<n:=by subst hH;exact fun _ _ h=>h
 generalize hP:std=p,hB0:validI=B0,hB1:wordB=B1,hB2:Bd.inB=B2,hB3:Bd.let_=B3,hB4:srI=B4,hB5:scI=B5,hB6:celV=B6
 cbv
 repeat' first
  | (refine fun (_:Unit)=>?_;cbv)
  | (refine Or.inr ⟨51,[],[.s 7 (.i .i64),.s 6 .b],[],[],H,rfl,hl,?_,fun ((k,fr):Int×Bool) hk=>?_⟩<;>cbv)
  | (refine aI2 (fun h=>?_) (fun h=>?_)<;>cbv)
  | (refine aI2 ?_ ?_)
 all_goals subst hP hB0 hB1 hB2 hB3 hB4 hB5 hB6 hH
 all_goals clear hl
 all_goals try dsimp only at hk
 all_goals try dsimp only
 all_goals try exact fin
 all_goals (try simp only [eta_bd,eta_pl] at *)
 all_goals try (have hw:=wordB_len (show wordB q.word=true by assumption))
 all_goals try (have hi:=Fit_in hp.1 (show b.inB q.row q.col=true by assumption))
 ·unfold validI;simp [*]
 ·exact sqP_of (by omega) (by omega) (by show _≤(q.word.length:Int)-1∧(q.word.length:Int)-1≤_;omega)
 ·exact sqP_of (by omega) (by omega) (by omega)
 ·exact sqP_of (by omega) (by omega) (by show _≤(q.word.length:Int)∧(q.word.length:Int)≤_;omega)
 ·unfold validI;simp only [srI,scI,sd_sub,sd_lenS] at *;simp [*]
 ·exact⟨Int.le_refl 0,Int.natCast_nonneg _,rfl,rfl⟩
 ·obtain⟨q0,q1, -, -⟩:=hk
  have q1:k≤(q.word.length:Int):=q1
  exact sqP_of (by omega) (by omega) (by omega)
 all_goals try obtain⟨q0,q1,q2,q3⟩:=hk
 all_goals try (have q1:k≤(q.word.length:Int):=q1)
 all_goals try (have hlt:k<(q.word.length:Int):=lt_of ‹_›)
 ·refine⟨by show 0≤k+1;omega,by show k+1≤(q.word.length:Int);omega,?_⟩
  rw [k_suc q0,fit_step,free_step,q2,vk_dot q0 h,Bool.or_true]
  refine⟨?_,rfl⟩
  unfold fitQ;rw [vk_dot q0 h];rfl
 ·rw [valid_eq ‹_› ‹_› ‹_› ‹_› ‹_›,fit_no (k:=k.toNat) ?_ (by omega),Bool.false_and]
  unfold fitQ
  rw [vk_dot q0 (show std.eqI (celV b (srI q k) (scI q k)) 46=false by assumption),vk_let q0 ‹_›];rfl
 ·refine⟨by show 0≤k+1;omega,by show k+1≤(q.word.length:Int);omega,?_⟩
  have hd:=vk_dot q0 (show std.eqI (celV b (srI q k) (scI q k)) 46=false by assumption)
  rw [k_suc q0,fit_step,free_step,q2,hd,Bool.or_false]
  refine⟨?_,q3⟩
  unfold fitQ
  rw [vk_let q0 ‹_›,Bool.or_true];rfl
 ·have hge:=ge_of (show std.ltI k (std.lenS q.word)=false by assumption)
  have e:k.toNat=q.word.length:=by have : (q.word.length:Int)≤k:=hge;omega
  rw [valid_eq ‹_› ‹_› ‹_› ‹_› ‹_›,q3,←e,q2];rfl
 ·unfold validI;simp only [srI,scI,sd_sub,sd_lenS] at *;simp [*]
 ·unfold validI;simp only [srI,scI,sd_sub,sd_lenS] at *;simp [*]
 ·unfold validI;rw [show wordB q.word=false by assumption];simp
def okI (b:Bd) (q:Pl):Bool:=bdB b&&validI b q
def sp_i_ValidPlay (p:Pr):FSpec:=fsp (ac (aA aBd) (a1 (aA aPl))) (fun (b,q)=>BdP b∧p.leP (p.lenS q.word) 1073741824) (fun (b,q)=>.b (okI b q))
theorem ok_i_ValidPlay:FOk Tryz.prog 134 (sp_i_ValidPlay std):=by
 refine FOk.go (c:=cx std [(81,sp_i_ValidBoard std),(202,sp_i_Play_validOn std)] [] 0) (cx_ok (.cons ok_i_ValidBoard (.cons ok_i_Play_validOn .nil)) .nil) mixed Tryz.func134 rfl rfl rfl (by kernel_rfl) ?_
 rintro ⟨b,q⟩ hp
 dsimp only at hp
 refine⟨rfl,?_⟩
 unfold sp_i_ValidBoard sp_i_Play_validOn
 generalize hP:std=p,hB0:okI=B0,hB1:bdB=B1,hB2:validI=B2
 cbv
 repeat' first
  | (refine fun (_:Unit)=>?_;cbv)
  | (refine aI2 (fun h=>?_) (fun h=>?_)<;>cbv)
  | (refine aI2 ?_ ?_)
  | (refine Or.inl (fun (_:Unit)=>?_);cbv)
 all_goals subst hP hB0 hB1 hB2
 all_goals try exact fin
 ·exact bdB.fit (show bdB b=true from h)
 ·unfold okI;rw [show bdB b=true from h,Bool.true_and]
 ·unfold okI;rw [show bdB b=false from h,Bool.false_and]
structure VP (b:Bd) (q:Pl):Prop where
 bd:bdB b=true
 fit:b.Fit
 on:OnQ b q
 lett:lettB q.word=true
 lo:2≤q.word.length
 hi:q.word.length≤12
 r:0≤q.row∧q.row≤14
 c:0≤q.col∧q.col≤14
theorem VP.of {b:Bd} {q:Pl} (hb:bdB b=true) (h:validI b q=true):VP b q:=by
 have hf:=bdB.fit hb
 obtain⟨h1,h2,h3,h4⟩:=validI_facts h
 have h5:=h1 0 (by omega)
 have h6:q.sr ((0:Nat):Int)=q.row:=by unfold Pl.sr;split<;>simp
 have h7:q.sc ((0:Nat):Int)=q.col:=by unfold Pl.sc;split<;>simp
 rw [h6,h7] at h5
 exact⟨hb,hf,h1,h2,h3,h4,(Fit_in hf h5).1,(Fit_in hf h5).2⟩
theorem asc_of {s:List UInt8} (h:lettB s=true):std.asc s:=fun c hc=>by
 have:=List.all_eq_true.1 (lettB_ascii h) c hc
 simpa using this
def nsTo (b:Bd) (q:Pl) (k:Int):List (Int×Int):=sqL q (newTo b q k.toNat)
def npTo (b:Bd) (q:Pl) (k:Int):List Int:=(newTo b q k.toNat).map fun i:Nat=>(i:Int)
def nsI (b:Bd) (q:Pl):List (Int×Int):=sqL q (newL b q)
def npI (b:Bd) (q:Pl):List Int:=(newL b q).map fun i:Nat=>(i:Int)
theorem new_no {b:Bd} {q:Pl} {k:Nat} (h:b.let_ (q.sr k) (q.sc k)=false):newTo b q (k+1)=newTo b q k++[k]:=by
 unfold newTo
 rw [List.range_succ,List.filter_append]
 simp [h]
theorem new_yes {b:Bd} {q:Pl} {k:Nat} (h:b.let_ (q.sr k) (q.sc k)=true):newTo b q (k+1)=newTo b q k:=by
 unfold newTo
 rw [List.range_succ,List.filter_append]
 simp [h]
def sp_i_newSquares (p:Pr):FSpec:=fsp (ac (aA aBd) (a1 (aA aPl))) (fun (b,q)=>VP b q) (fun (b,q)=>.tup [.rsl [.i .i64,.i .i64] (nsI b q),.rsl [.i .i64] (npI b q)])
def sp_i_newSquares_o (p:Pr):FSpec:=fsp (ac (aA aBd) (a1 (aA aPl))) (fun (b,q)=>VP b q) (fun (b,q)=>.tup [.osl 0,.osl 1]) (fun (b,q)=>[(0,.own [.i .i64,.i .i64] (nsI b q) 211),(1,.own [.i .i64] (npI b q) 3)])
theorem ok_i_newSquares_o:FOk Tryz.prog 203 (sp_i_newSquares_o std):=by
 refine FOk.go (c:=cx std [(211,sp_i_Play_square std),(258,sp_i_Board_on std)] [] 0) (cx_ok (.cons ok_i_Play_square (.cons ok_i_Board_on .nil)) .nil) mixed Tryz.func203 rfl rfl rfl (by kernel_rfl) ?_
 rintro ⟨b,q⟩ hp
 dsimp only at hp
 refine⟨rfl,?_⟩
 unfold sp_i_Play_square sp_i_Board_on
 obtain⟨H,hH⟩ : ∃H:Hd (Int×List (Int×Int)×List Int),H=⟨fun (k,S,P)=>0≤k∧k≤q.word.length∧S=nsTo b q k∧P=npTo b q k,fun (k,S,P)=>(q.word.length-k).toNat,(· < ·)⟩:=⟨_,rfl⟩
 have hl : ∀m n,H.lt m n→m<n:=by subst hH;exact fun _ _ h=>h
 generalize hP:std=p,hB0:nsI=B0,hB1:npI=B1,hB2:Bd.let_=B2,hB3:srI=B3,hB4:scI=B4
 cbv
 repeat' first
  | (refine fun (_:Unit)=>?_;cbv)
  | (refine Or.inr ⟨15,[],[.c 4 0 (.i .i64),.o 2 [.i .i64,.i .i64],.o 3 [.i .i64]],[.s 6,.s 7],[],H,rfl,hl,?_,fun ((k,S,P):Int×List (Int×Int)×List Int) hk=>?_⟩<;>cbv)
  | (refine aI2 (fun h=>?_) (fun h=>?_)<;>cbv)
  | (refine aI2 ?_ ?_)
 all_goals subst hP hB0 hB1 hB2 hB3 hB4 hH
 all_goals clear hl
 all_goals try dsimp only at hk
 all_goals try dsimp only
 all_goals try exact fin
 ·exact asc_of hp.lett
 ·exact⟨Int.le_refl 0,Int.natCast_nonneg _,rfl,rfl⟩
 all_goals obtain⟨q0,q1,rfl,rfl⟩:=hk
 all_goals have q1:k≤(q.word.length:Int):=q1
 all_goals have a1:=hp.r
 all_goals have a2:=hp.c
 all_goals have a3:=hp.hi
 all_goals have a4:=newTo_length b q k.toNat
 all_goals try (have hlt:k<(q.word.length:Int):=lt_of ‹_›)
 ·show SqP q k;exact sqP_of (by omega) (by omega) (by omega)
 ·show ((nsTo b q k).length : Int)+1≤_
  unfold nsTo sqL;rw [List.length_map];omega
 ·show ((npTo b q k).length : Int)+1≤_
  unfold npTo;rw [List.length_map];omega
 ·refine⟨by show 0≤k+1;omega,by show k+1≤(q.word.length:Int);omega,?_,?_⟩
  ·show nsTo b q k++[(q.sr k,q.sc k)]=_
   unfold nsTo
   rw [k_suc q0,new_no (by rw [Int.toNat_of_nonneg q0];assumption)]
   simp [sqL,Int.toNat_of_nonneg q0]
  ·show npTo b q k++[k]=_
   unfold npTo
   rw [k_suc q0,new_no (by rw [Int.toNat_of_nonneg q0];assumption)]
   simp [Int.toNat_of_nonneg q0]
 ·refine⟨by show 0≤k+1;omega,by show k+1≤(q.word.length:Int);omega,?_,?_⟩
  ·unfold nsTo;rw [k_suc q0,new_yes (by rw [Int.toNat_of_nonneg q0];assumption)]
  ·unfold npTo;rw [k_suc q0,new_yes (by rw [Int.toNat_of_nonneg q0];assumption)]
 all_goals
  have hge:(q.word.length:Int)≤k:=ge_of ‹_›
  have e:k.toNat=q.word.length:=by omega
 ·unfold nsTo;rw [e];rfl
 ·unfold npTo;rw [e];rfl
theorem ok_i_newSquares:FOk Tryz.prog 203 (sp_i_newSquares std):=FOk.frz ok_i_newSquares_o fun ⟨b,q⟩=>⟨by simp [deep,deeps,AH.get],by simp [PV.idIn,idInL]⟩
theorem made_suc (b:Bd) (q:Pl) (k:Nat):madeTo b q (k+1)=(madeTo b q k).set (idxOf b q k) (q.word.getD k 0):=by
 unfold madeTo
 rw [List.range_succ,List.foldl_append]
 rfl
theorem made_len (b:Bd) (q:Pl) : ∀k,(madeTo b q k).length =b.cells.length
 | 0=>rfl
 | k+1=>by rw [made_suc,List.length_set,made_len b q k]
def sp_i_made (p:Pr):FSpec:=fsp (ac (aA aBd) (a1 (aA aPl))) (fun (b,q)=>VP b q) (fun (b,q)=>.agg [.i .i64 (madeB b q).size,.s (madeB b q).prem,.s (madeB b q).cells])
theorem ok_i_made:FOk Tryz.prog 119 (sp_i_made std):=by
 refine FOk.go (c:=cx std [(211,sp_i_Play_square std)] [] 0) (cx_ok (.cons ok_i_Play_square .nil) .nil) mixed Tryz.func119 rfl rfl rfl (by kernel_rfl) ?_
 rintro ⟨b,q⟩ hp
 dsimp only at hp
 refine⟨rfl,?_⟩
 unfold sp_i_Play_square
 obtain⟨H,hH⟩ : ∃H:Hd (Int×List Int),H=⟨fun (k,L)=>0≤k∧k≤q.word.length∧L=toBl (madeTo b q k.toNat),fun (k,L)=>(q.word.length-k).toNat,(· < ·)⟩:=⟨_,rfl⟩
 have hl : ∀m n,H.lt m n→m<n:=by subst hH;exact fun _ _ h=>h
 generalize hP:std=p,hB0:madeB=B0,hB1:srI=B1,hB2:scI=B2
 cbv
 repeat' first
  | (refine fun (_:Unit)=>?_;cbv)
  | (refine Or.inr ⟨14,[],[.c 4 0 (.i .i64),.o 3 [.i .u8]],[],[],H,rfl,hl,?_,fun ((k,L):Int×List Int) hk=>?_⟩<;>cbv)
  | (refine aI2 (fun h=>?_) (fun h=>?_)<;>cbv)
  | (refine aI2 ?_ ?_)
 all_goals subst hP hB0 hB1 hB2 hH
 all_goals clear hl
 all_goals try dsimp only at hk
 all_goals try dsimp only
 all_goals try exact fin
 ·exact asc_of hp.lett
 ·exact⟨Int.le_refl 0,Int.natCast_nonneg _,rfl⟩
 all_goals obtain⟨q0,q1,rfl⟩:=hk
 all_goals have q1:k≤(q.word.length:Int):=q1
 all_goals have a1:=hp.r
 all_goals have a2:=hp.c
 all_goals have a3:=hp.hi
 all_goals have a4:=made_len b q k.toNat
 all_goals try (have hlt:k<(q.word.length:Int):=lt_of ‹_›)
 all_goals try (have hix:=ix_in hp.fit (hp.on k.toNat (by omega));rw [Int.toNat_of_nonneg q0] at hix)
 ·show SqP q k;exact sqP_of (by omega) (by omega) (by omega)
 ·exact in64 (by show _≤q.sr k*b.size∧q.sr k*b.size≤_;omega)
 ·exact in64 (by show _≤q.sr k*b.size+q.sc k∧q.sr k*b.size+q.sc k≤_;omega)
 ·refine⟨hix.2.1,?_⟩
  show q.sr k*b.size+q.sc k<((toBl (madeTo b q k.toNat)).length : Int)
  rw [toB_len];omega
 ·refine⟨hix.2.1,?_⟩
  show q.sr k*b.size+q.sc k<((toBl (madeTo b q k.toNat)).length : Int)
  rw [toB_len];omega
 ·refine⟨by show 0≤k+1;omega,by show k+1≤(q.word.length:Int);omega,?_⟩
  show (toBl (madeTo b q k.toNat)).set (q.sr k*b.size+q.sc k).toNat (((q.word.getD k.toNat 0).toNat : Nat):Int)=_
  rw [toB_set,k_suc q0,made_suc]
  unfold idxOf
  rw [Int.toNat_of_nonneg q0]
 ·have hge:(q.word.length:Int)≤k:=ge_of ‹_›
  have e:k.toNat=q.word.length:=by omega
  show toSl (toBl (madeTo b q k.toNat))=madeTo b q q.word.length
  rw [toS_toB,e]
end Ax
end Go.Proofs.YtjjonmhpgkahoaaGreatDoor
