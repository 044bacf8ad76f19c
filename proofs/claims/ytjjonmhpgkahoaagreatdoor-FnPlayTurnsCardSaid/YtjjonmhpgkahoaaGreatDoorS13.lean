/-
  Boards after plays and scores, of the spec package; Parts of scores and scores, of the spec package; Games of the spec package: small functions; The laws package: the sizes of setups, of last actions, of games.
  Conditions: none.
-/
import Derived.Test.YtjjonmhpgkahoaaGreatDoorS12
import Derived.Test.YtjjonmhpgkahoaaGreatDoorS11
set_option linter.unusedSimpArgs false
set_option linter.unusedVariables false
namespace Go.Proofs.YtjjonmhpgkahoaaGreatDoor
namespace Ax
set_option maxRecDepth 100000
theorem lay_len (f:Bd) (p:Pl) (k:Nat):(layTo f p k).length =f.cells.length:=by
 unfold layTo
 generalize List.range k=l
 suffices h : ∀(l:List Nat) (s:List UInt8),(l.foldl (fun s i=>s.set ((p.row*f.size+p.col).toNat + i) (p.word.getD i 0)) s).length =s.length from h l _
 intro l
 induction l with
 | nil=>intro s;rfl
 | cons x r ih=>intro s;rw [List.foldl_cons,ih,List.length_set]
theorem lay_step {f:Bd} {p:Pl} {k:Int} (h0:0≤k) (h1:0≤p.row*f.size+p.col):layTo f p (k+1).toNat =(layTo f p k.toNat).set (p.row*f.size+p.col+k).toNat (p.word.getD k.toNat 0):=by
 have e:(k+1).toNat =k.toNat+1:=by omega
 have e2:(p.row*f.size+p.col+k).toNat =(p.row*f.size+p.col).toNat + k.toNat:=by omega
 rw [e,e2]
 unfold layTo
 rw [List.range_succ,List.foldl_append]
 rfl
theorem at_ix {b:Bd} {q:Pl} (h:OnR b q):0≤q.row*b.size∧q.row*b.size≤225∧0≤q.row*b.size+q.col∧q.row*b.size+q.col+q.word.length≤b.cells.length∧(b.cells.length:Int)≤225:=by
 obtain⟨⟨a1,a2⟩,a3,a4⟩:=inB_iff.1 h.inn
 have h2:=sq_bd (n:=b.size) (by simp [inR,h.fit.lo,h.fit.hi])
 have h3:=h.out
 have h4:=h.fit.cells
 have h5:=Int.mul_nonneg a1 (show 0≤b.size by omega)
 have h6:=Int.mul_le_mul_of_nonneg_right (show q.row≤b.size-1 by omega) (show 0≤b.size by omega)
 have h7:(b.size-1)*b.size=b.size*b.size-b.size:=by rw [Int.sub_mul,Int.one_mul]
 omega
theorem made_y {b:Bd} {q:Pl} (h:q.down=true):madeS b q=⟨(flatB b q).size,turnI (flatB b q).size (flatB b q).prem,turnI (flatB b q).size (layTo (flatB b q) (flatP q) (flatP q).word.length)⟩:=by unfold madeS;rw [if_pos h];rfl
theorem made_n {b:Bd} {q:Pl} (h:q.down=false):madeS b q=⟨(flatB b q).size,(flatB b q).prem,layTo (flatB b q) (flatP q) (flatP q).word.length⟩:=by unfold madeS;rw [if_neg (by rw [h];exact Bool.false_ne_true)];rfl
def sp_s_l12Make (p:Pr):FSpec:=fsp (ac (aP aBd) (a1 (aA aPl))) (fun (b,q)=>PlP b q) (fun (b,q)=>.agg [.i .i64 (madeS b q).size,.s (madeS b q).prem,.s (madeS b q).cells])
theorem ok_s_l12Make:FOk Tryz.prog 130 (sp_s_l12Make std):=by
 refine FOk.go (c:=cx std [(125,sp_s_l12Flat std),(195,sp_s_l11Transpose std)] [] 0) (cx_ok (.cons ok_s_l12Flat (.cons ok_s_l11Transpose .nil)) .nil) mixed Tryz.func130 rfl rfl rfl (by kernel_rfl) ?_
 rintro ⟨b,q⟩ hp
 dsimp only at hp
 refine⟨rfl,?_⟩
 unfold sp_s_l12Flat sp_s_l11Transpose
 obtain⟨H,hH⟩ : ∃H:Hd (Int×List Int),H=⟨fun (k,L)=>0≤k∧k≤(flatP q).word.length ∧L=toBl (layTo (flatB b q) (flatP q) k.toNat),fun (k,L)=>((flatP q).word.length - k).toNat,(· < ·)⟩:=⟨_,rfl⟩
 have hl : ∀m n,H.lt m n→m<n:=by subst hH;exact fun _ _ h=>h
 generalize hP:std=p,hB0:madeS=B0,hB1:layTo=B1,hB2:turnI=B2,hB3:flatB=B3,hB4:flatP=B4
 cbv
 repeat' first
  | (refine fun (_:Unit)=>?_;cbv)
  | (refine Or.inr ⟨19,[],[.s 8 (.i .i64),.o 4 [.i .u8]],[],[],H,rfl,hl,?_,fun ((k,L):Int×List Int) hk=>?_⟩<;>cbv)
  | (refine aI2 (fun h=>?_) (fun h=>?_)<;>cbv)
  | (refine aI2 ?_ ?_)
 all_goals subst hP hB0 hB1 hB2 hB3 hB4 hH
 all_goals clear hl
 all_goals try dsimp only at hk
 all_goals try dsimp only
 all_goals have f1:=hp.on.len
 all_goals have f2:=at_ix hp.on
 all_goals try exact fin
 ·exact⟨Int.le_refl 0,Int.natCast_nonneg _,rfl⟩
 all_goals obtain⟨q0,q1,rfl⟩:=hk
 all_goals obtain⟨i1,i2,i3,i4,i5⟩:=f2
 all_goals try (have h1:k<(flatP q).word.length :=lt_of ‹_›)
 ·have h2:=lay_len (flatB b q) (flatP q) k.toNat
  show 0≤(flatP q).row * (flatB b q).size + (flatP q).col + k∧(flatP q).row * (flatB b q).size + (flatP q).col + k<((toBl (layTo (flatB b q) (flatP q) k.toNat)).length : Int)
  rw [toB_len]
  omega
 ·have h2:=lay_len (flatB b q) (flatP q) k.toNat
  show 0≤(flatP q).row * (flatB b q).size + (flatP q).col + k∧(flatP q).row * (flatB b q).size + (flatP q).col + k<((toBl (layTo (flatB b q) (flatP q) k.toNat)).length : Int)
  rw [toB_len]
  omega
 ·have g1:k+1≤((flatP q).word.length : Int):=by omega
  refine⟨by show 0≤k+1;omega,g1,?_⟩
  show (toBl (layTo (flatB b q) (flatP q) k.toNat)).set ((flatP q).row * (flatB b q).size + (flatP q).col + k).toNat (((flatP q).word.getD k.toNat 0).toNat : Int)=toBl (layTo (flatB b q) (flatP q) (k+1).toNat)
  rw [toB_set,lay_step q0 i3]
 all_goals have e:k=((flatP q).word.length : Int):=Int.le_antisymm q1 (ge_of (b:=((flatP q).word.length : Int)) ‹_›)
 all_goals try rw [made_y (show q.down=true by assumption)]
 all_goals try rw [made_n (show q.down=false by assumption)]
 ·have h2:=hp.on.fit
  refine⟨h2.lo,h2.hi,h2.prem,?_⟩
  show (((toSl (toBl (layTo (flatB b q) (flatP q) k.toNat))).length : Nat):Int)=(flatB b q).size * (flatB b q).size
  rw [toS_toB,lay_len,h2.cells]
 ·show turnI (flatB b q).size (toSl (toBl (layTo (flatB b q) (flatP q) k.toNat)))=turnI (flatB b q).size (layTo (flatB b q) (flatP q) (flatP q).word.length)
  rw [toS_toB,e,Int.toNat_natCast]
 ·show toSl (toBl (layTo (flatB b q) (flatP q) k.toNat))=layTo (flatB b q) (flatP q) (flatP q).word.length
  rw [toS_toB,e,Int.toNat_natCast]
def prmI (b:Bd) (r c:Int):Int:=(b.prm r c).toNat
theorem prm_bd {b:Bd} {r c:Int} (h:AtP b r c):(0≤r*b.size∧r*b.size≤225)∧(0≤r*b.size+c∧r*b.size+c<b.prem.length∧(b.prem.length:Int)≤225):=by
 have h1:=atP_bd h
 have h2:=h.fit.cells
 have h3:=h.fit.prem
 omega
def sp_s_l13Premium (p:Pr):FSpec:=fsp (ac (aP aBd) (ac aI (a1 aI))) (fun (b,r,c)=>AtP b r c) (fun (b,r,c)=>.i .u8 (prmI b r c))
theorem ok_s_l13Premium:FOk Tryz.prog 308 (sp_s_l13Premium std):=by
 refine FOk.go (c:=cx std [] [] 0) (cx_ok .nil .nil) mixed Tryz.func308 rfl rfl rfl (by kernel_rfl) ?_
 rintro ⟨b,r,c⟩ hp
 dsimp only at hp
 refine⟨rfl,?_⟩
 generalize hP:std=p,hB0:prmI=B0
 cbv
 repeat' first
  | (refine fun (_:Unit)=>?_;cbv)
  | (refine aI2 (fun h=>?_) (fun h=>?_)<;>cbv)
  | (refine aI2 ?_ ?_)
  | (refine Or.inl (fun (_:Unit)=>?_);cbv)
 all_goals subst hP hB0
 all_goals have f1:=prm_bd hp
 all_goals try exact fin
theorem by_e {c:UInt8} (n:Nat) (hn:n<256):std.eqI (c.toNat:Int) n=(c==UInt8.ofNat n):=by
 rw [sd_eqI,Bool.eq_iff_iff,beq_iff_eq,beq_iff_eq]
 constructor
 ·intro h;rw [←UInt8.ofNat_toNat (x:=c),show c.toNat=n from by omega]
 ·intro h;rw [h,UInt8.toNat_ofNat',Nat.mod_eq_of_lt hn]
def letterV (t:TS) (b:Bd) (r c:Int) (l:UInt8):Int:=ltF (b.prm r c)*valT t l
def factorV (b:Bd) (r c:Int):Int:=wdF (b.prm r c)
section
variable {t:TS} {b:Bd} {r c:Int} {l:UInt8}
theorem lv_2 (h:std.eqI (prmI b r c) 50=true):2*valT t l=letterV t b r c l:=by
 replace h:=(by_e 50 (by decide)).symm.trans h
 unfold letterV ltF;rw [if_pos (show (b.prm r c==50)=true from h)]
theorem lv_3 (h0:std.eqI (prmI b r c) 50=false) (h:std.eqI (prmI b r c) 51=true):3*valT t l=letterV t b r c l:=by
 replace h:=(by_e 51 (by decide)).symm.trans h;replace h0:=(by_e 50 (by decide)).symm.trans h0
 unfold letterV ltF;rw [if_neg (by rw [show (b.prm r c==50)=false from h0];exact Bool.false_ne_true),if_pos (show (b.prm r c==51)=true from h)]
theorem lv_1 (h0:std.eqI (prmI b r c) 50=false) (h:std.eqI (prmI b r c) 51=false):valT t l=letterV t b r c l:=by
 replace h:=(by_e 51 (by decide)).symm.trans h;replace h0:=(by_e 50 (by decide)).symm.trans h0
 unfold letterV ltF;rw [if_neg (by rw [show (b.prm r c==50)=false from h0];exact Bool.false_ne_true),if_neg (by rw [show (b.prm r c==51)=false from h];exact Bool.false_ne_true),Int.one_mul]
theorem fv_2 (h:std.eqI (prmI b r c) 100=true):2=factorV b r c:=by
 replace h:=(by_e 100 (by decide)).symm.trans h
 unfold factorV wdF;rw [if_pos (show (b.prm r c==100)=true from h)]
theorem fv_3 (h0:std.eqI (prmI b r c) 100=false) (h:std.eqI (prmI b r c) 116=true):3=factorV b r c:=by
 replace h:=(by_e 116 (by decide)).symm.trans h;replace h0:=(by_e 100 (by decide)).symm.trans h0
 unfold factorV wdF;rw [if_neg (by rw [show (b.prm r c==100)=false from h0];exact Bool.false_ne_true),if_pos (show (b.prm r c==116)=true from h)]
theorem fv_1 (h0:std.eqI (prmI b r c) 100=false) (h:std.eqI (prmI b r c) 116=false):1=factorV b r c:=by
 replace h:=(by_e 116 (by decide)).symm.trans h;replace h0:=(by_e 100 (by decide)).symm.trans h0
 unfold factorV wdF;rw [if_neg (by rw [show (b.prm r c==100)=false from h0];exact Bool.false_ne_true),if_neg (by rw [show (b.prm r c==116)=false from h];exact Bool.false_ne_true)]
theorem lv_bd (h:TsOk t):0≤letterV t b r c l∧letterV t b r c l≤60:=by
 have h1:=h.lo l
 have h2:=h.hi l
 unfold letterV ltF
 split
 ·omega
 ·split<;>omega
theorem fv_bd:1≤factorV b r c∧factorV b r c≤3:=by
 unfold factorV wdF
 split
 ·omega
 ·split<;>omega
end
structure LtP (t:TS) (b:Bd) (r c l:Int):Prop where
 l:std.inK .u8 l
 ts:TsOk t
 at':AtP b r c
def sp_s_l13Letter (p:Pr):FSpec:=fsp (ac (aP aTs) (ac (aP aBd) (ac aI (ac aI (a1 aC))))) (fun (t,b,r,c,l)=>LtP t b r c l) (fun (t,b,r,c,l)=>.i .i64 (letterV t b r c (u8 l)))
theorem ok_s_l13Letter:FOk Tryz.prog 276 (sp_s_l13Letter std):=by
 refine FOk.go (c:=cx std [(253,sp_s_l02Value std),(308,sp_s_l13Premium std)] [] 0) (cx_ok (.cons ok_s_l02Value (.cons ok_s_l13Premium .nil)) .nil) mixed Tryz.func276 rfl rfl rfl (by kernel_rfl) ?_
 rintro ⟨t,b,r,c,l⟩ hp
 dsimp only at hp
 refine⟨rfl,?_⟩
 unfold sp_s_l02Value sp_s_l13Premium
 generalize hP:std=p,hB0:letterV=B0,hB1:prmI=B1,hB2:valT=B2,hB3:u8=B3
 cbv
 repeat' first
  | (refine fun (_:Unit)=>?_;cbv)
  | (refine aI2 (fun h=>?_) (fun h=>?_)<;>cbv)
  | (refine aI2 ?_ ?_)
  | (refine Or.inl (fun (_:Unit)=>?_);cbv)
 all_goals subst hP hB0 hB1 hB2 hB3
 all_goals have f1:=hp.ts.lo (u8 l)
 all_goals have f2:=hp.ts.hi (u8 l)
 all_goals try exact fin
 ·exact hp.at'
 ·exact lv_2 ‹_›
 ·exact lv_3 ‹_› ‹_›
 ·exact lv_1 ‹_› ‹_›
def sp_s_l13Factor (p:Pr):FSpec:=fsp (ac (aP aBd) (ac aI (a1 aI))) (fun (b,r,c)=>AtP b r c) (fun (b,r,c)=>.i .i64 (factorV b r c))
theorem ok_s_l13Factor:FOk Tryz.prog 277 (sp_s_l13Factor std):=by
 refine FOk.go (c:=cx std [(308,sp_s_l13Premium std)] [] 0) (cx_ok (.cons ok_s_l13Premium .nil) .nil) mixed Tryz.func277 rfl rfl rfl (by kernel_rfl) ?_
 rintro ⟨b,r,c⟩ hp
 dsimp only at hp
 refine⟨rfl,?_⟩
 unfold sp_s_l13Premium
 generalize hP:std=p,hB0:prmI=B0,hB1:factorV=B1
 cbv
 repeat' first
  | (refine fun (_:Unit)=>?_;cbv)
  | (refine aI2 (fun h=>?_) (fun h=>?_)<;>cbv)
  | (refine aI2 ?_ ?_)
  | (refine Or.inl (fun (_:Unit)=>?_);cbv)
 all_goals subst hP hB0 hB1
 all_goals try exact fin
 ·exact fv_2 ‹_›
 ·exact fv_3 ‹_› ‹_›
 ·exact fv_1 ‹_› ‹_›
theorem ls_len (t:TS) (b:Bd) (q:Pl):(lsS t b q).length =q.word.length:=by unfold lsS;rw [List.length_map,List.length_range]
theorem ls_at {t:TS} {b:Bd} {q:Pl} {k:Int} (h0:0≤k) (h:k<q.word.length):(lsS t b q).getD k.toNat 0=if atI b q.row (q.col+k)=46 then letterV t b q.row (q.col+k) (q.word.getD k.toNat 0) else valT t (q.word.getD k.toNat 0):=by
 unfold lsS
 rw [List.getD_eq_getElem?_getD,List.getElem?_map,List.getElem?_range (by omega)]
 show (if b.at_ q.row (q.col+((k.toNat:Nat):Int))==46 then _ else _)=_
 rw [show ((k.toNat:Nat):Int)=k from by omega]
 have e:(b.at_ q.row (q.col+k)==46)=decide (atI b q.row (q.col+k)=46):=((by_e 46 (by decide)).symm.trans (Bool.eq_iff_iff.2 (by rw [sd_eqI,beq_iff_eq,decide_eq_true_eq];rfl)))
 rw [e]
 simp only [decide_eq_true_eq]
 rfl
structure LsP (t:TS) (b:Bd) (q:Pl):Prop where
 ts:TsOk t
 on:OnR b q
def sp_s_l13Letters (p:Pr):FSpec:=fsp (ac (aP aTs) (ac (aP aBd) (a1 (aA aPl)))) (fun (t,b,q)=>LsP t b q) (fun (t,b,q)=>.osl 0) (fun (t,b,q)=>[(0,.own [.i .i64] (lsS t b q) 2)])
theorem ok_s_l13Letters:FOk Tryz.prog 273 (sp_s_l13Letters std):=by
 refine FOk.go (c:=cx std [(197,sp_s_l11At std),(276,sp_s_l13Letter std),(253,sp_s_l02Value std)] [] 0) (cx_ok (.cons ok_s_l11At (.cons ok_s_l13Letter (.cons ok_s_l02Value .nil))) .nil) mixed Tryz.func273 rfl rfl rfl (by kernel_rfl) ?_
 rintro ⟨t,b,q⟩ hp
 dsimp only at hp
 refine⟨rfl,?_⟩
 unfold sp_s_l11At sp_s_l13Letter sp_s_l02Value
 obtain⟨H,hH⟩ : ∃H:Hd (Int×List Int),H=⟨fun (k,L)=>0≤k∧k≤q.word.length∧L=(lsS t b q).take k.toNat,fun (k,L)=>(q.word.length-k).toNat,(· < ·)⟩:=⟨_,rfl⟩
 have hl : ∀m n,H.lt m n→m<n:=by subst hH;exact fun _ _ h=>h
 generalize hP:std=p,hB0:lsS=B0,hB1:valT=B1,hB2:letterV=B2,hB3:atI=B3,hB4:u8=B4
 cbv
 repeat' first
  | (refine fun (_:Unit)=>?_;cbv)
  | (refine Or.inr ⟨10,[],[.s 8 (.i .i64),.o 1 [.i .i64]],[.s 7],[],H,rfl,hl,?_,fun ((k,L):Int×List Int) hk=>?_⟩<;>cbv)
  | (refine aI2 (fun h=>?_) (fun h=>?_)<;>cbv)
  | (refine aI2 ?_ ?_)
 all_goals subst hP hB0 hB1 hB2 hB3 hB4 hH
 all_goals clear hl
 all_goals try dsimp only at hk
 all_goals try dsimp only
 all_goals have f1:=hp.on.len
 all_goals have f2:=hp.on.col
 all_goals have f3:=ls_len t b q
 all_goals try exact fin
 all_goals obtain⟨q0,q1,rfl⟩:=hk
 all_goals try (have h1:k<q.word.length:=lt_of ‹_›)
 all_goals try (have g1:k+1≤(q.word.length:Int):=by omega)
 all_goals try (have h2:=ls_at (t:=t) (b:=b) q0 h1)
 ·exact hp.on.at q0 h1
 ·exact⟨byte_in,hp.ts,hp.on.at q0 h1⟩
 ·show (((lsS t b q).take k.toNat).length : Int)+1≤_
  rw [List.length_take];omega
 ·refine⟨by show 0≤k+1;omega,g1,?_⟩
  have h3:atI b q.row (q.col+k)=46:=by have h4:std.eqI (atI b q.row (q.col+k)) 46=true:=by assumption
                                       simpa using h4
  rw [if_pos h3] at h2
  show (lsS t b q).take k.toNat++[letterV t b q.row (q.col+k) (u8 (std.byte q.word k))]=(lsS t b q).take (k+1).toNat
  rw [tk q0 (by rw [f3];exact h1) 0,h2,u8_byte]
 ·show (((lsS t b q).take k.toNat).length : Int)+1≤_
  rw [List.length_take];omega
 ·refine⟨by show 0≤k+1;omega,g1,?_⟩
  have h3 : ¬atI b q.row (q.col+k)=46:=by have h4:std.eqI (atI b q.row (q.col+k)) 46=false:=by assumption
                                          simpa using h4
  rw [if_neg h3] at h2
  show (lsS t b q).take k.toNat++[valT t (u8 (std.byte q.word k))]=(lsS t b q).take (k+1).toNat
  rw [tk q0 (by rw [f3];exact h1) 0,h2,u8_byte]
 ·rw [tk_all (by rw [f3];exact ge_of ‹_›)]
def mainK (b:Bd) (q:Pl) (k:Int):Int:=((frI b q).take k.toNat).foldl (fun a i=>a*factorV b q.row (q.col+i)) 1
theorem fac_fold (b:Bd) (r c:Int) (l:List Int) : ∀a:Int,1≤a→1≤l.foldl (fun a i=>a*factorV b r (c+i)) a∧l.foldl (fun a i=>a*factorV b r (c+i)) a≤a*3 ^ l.length:=by
 induction l with
 | nil=>intro a h;exact⟨h,by simp⟩
 | cons x l ih=>
   intro a h
   obtain⟨h1,h2⟩:=fv_bd (b:=b) (r:=r) (c:=c+x)
   have h3:a*1≤a*factorV b r (c+x):=Int.mul_le_mul_of_nonneg_left h1 (by omega)
   have h4:a*factorV b r (c+x)≤a*3:=Int.mul_le_mul_of_nonneg_left h2 (by omega)
   obtain⟨h5,h6⟩:=ih (a*factorV b r (c+x)) (by omega)
   refine⟨h5,Int.le_trans h6 ?_⟩
   rw [List.length_cons,Int.pow_succ,Int.mul_comm (3 ^ l.length) 3,←Int.mul_assoc]
   exact Int.mul_le_mul_of_nonneg_right h4 (Int.pow_nonneg (by decide))
theorem mainK_bd {b:Bd} {q:Pl} (h:q.word.length≤15) (k:Int):1≤mainK b q k∧mainK b q k≤14348907:=by
 obtain⟨h1,h2⟩:=fac_fold b q.row q.col ((frI b q).take k.toNat) 1 (by decide)
 have h3:=frI_len b q
 have h4:((frI b q).take k.toNat).length ≤15:=by rw [List.length_take];omega
 refine⟨h1,Int.le_trans h2 ?_⟩
 rw [Int.one_mul]
 have h5:(3:Nat) ^ ((frI b q).take k.toNat).length ≤3 ^ 15:=Nat.pow_le_pow_right (by decide) h4
 have h6:((3 ^ ((frI b q).take k.toNat).length : Nat):Int)≤((3 ^ 15:Nat):Int):=Int.ofNat_le.2 h5
 rw [Int.natCast_pow] at h6
 exact h6
theorem mainK_step {b:Bd} {q:Pl} {k:Int} (h0:0≤k) (h:k<(frI b q).length):mainK b q (k+1)=mainK b q k*factorV b q.row (q.col+(frI b q).getD k.toNat 0):=by
 unfold mainK
 rw [tk h0 h 0,List.foldl_append];rfl
theorem mainK_end {b:Bd} {q:Pl} {k:Int} (h:((frI b q).length : Int)≤k):mainK b q k=mainF b q:=by
 unfold mainK mainF
 rw [tk_all h]
 unfold frI
 rw [List.foldl_map];rfl
def sp_s_l13Main (p:Pr):FSpec:=fsp (ac (aP aBd) (a1 (aA aPl))) (fun (b,q)=>OnR b q) (fun (b,q)=>.i .i64 (mainF b q))
theorem ok_s_l13Main:FOk Tryz.prog 274 (sp_s_l13Main std):=by
 refine FOk.go (c:=cx std [(217,sp_s_l12Fresh std),(277,sp_s_l13Factor std)] [] 0) (cx_ok (.cons ok_s_l12Fresh (.cons ok_s_l13Factor .nil)) .nil) mixed Tryz.func274 rfl rfl rfl (by kernel_rfl) ?_
 rintro ⟨b,q⟩ hp
 dsimp only at hp
 refine⟨rfl,?_⟩
 unfold sp_s_l12Fresh sp_s_l13Factor
 obtain⟨H,hH⟩ : ∃H:Hd (Int×Int),H=⟨fun (m,k)=>0≤k∧k≤(frI b q).length ∧m=mainK b q k,fun (m,k)=>((frI b q).length - k).toNat,(· < ·)⟩:=⟨_,rfl⟩
 have hl : ∀m n,H.lt m n→m<n:=by subst hH;exact fun _ _ h=>h
 generalize hP:std=p,hB0:mainF=B0,hB1:factorV=B1,hB2:frI=B2
 cbv
 repeat' first
  | (refine fun (_:Unit)=>?_;cbv)
  | (refine Or.inr ⟨11,[],[.s 6 (.i .i64),.s 7 (.i .i64)],[],[],H,rfl,hl,?_,fun ((m,k):Int×Int) hk=>?_⟩<;>cbv)
  | (refine aI2 (fun h=>?_) (fun h=>?_)<;>cbv)
  | (refine aI2 ?_ ?_)
 all_goals subst hP hB0 hB1 hB2 hH
 all_goals clear hl
 all_goals try dsimp only at hk
 all_goals try dsimp only
 all_goals have f1:=hp.len
 all_goals have f2:=hp.col
 all_goals have f3:=frI_len b q
 all_goals try exact fin
 ·exact⟨Int.le_refl 0,Int.natCast_nonneg _,rfl⟩
 all_goals obtain⟨q0,q1,rfl⟩:=hk
 all_goals try (have h1:k<(frI b q).length :=lt_of ‹_›)
 all_goals try (have h2:=frI_bd q0 h1)
 all_goals try (have g1:k+1≤((frI b q).length : Int):=by omega)
 all_goals have h3:=mainK_bd (b:=b) f1 k
 ·exact in64 (by show _≤q.col+(frI b q).getD k.toNat 0∧q.col+(frI b q).getD k.toNat 0≤_;omega)
 ·exact hp.at h2.1 h2.2
 ·have h4:=mainK_bd (b:=b) f1 (k+1)
  rw [mainK_step q0 h1] at h4
  exact in64 (by show _≤mainK b q k*factorV b q.row (q.col+(frI b q).getD k.toNat 0)∧mainK b q k*factorV b q.row (q.col+(frI b q).getD k.toNat 0)≤_;omega)
 ·refine⟨by show 0≤k+1;omega,g1,?_⟩
  exact (mainK_step q0 h1).symm
 ·exact mainK_end (ge_of ‹_›)
end Ax
namespace Ax
set_option maxRecDepth 100000
set_option maxHeartbeats 2000000
theorem sum_tk {L:List Int} {k:Int} (h0:0≤k) (h:k<L.length):(L.take (k+1).toNat).sum =(L.take k.toNat).sum + L.getD k.toNat 0:=by
 rw [tk h0 h 0,List.sum_append]
 simp
def crE (t:TS) (b:Bd) (q:Pl) (i k:Int):Int:=if upI b (q.col+i) q.row+k=q.row then letterV t b q.row (q.col+i) (q.word.getD i.toNat 0) else valT t ((crossAt b q i.toNat).getD k.toNat 0)
def crSm (t:TS) (b:Bd) (q:Pl) (i k:Int):Int:=((List.range k.toNat).map fun n:Nat=>crE t b q i n).sum
def ixF (b:Bd) (q:Pl) (j:Int):Int:=(frI b q).getD j.toNat 0
def partK (t:TS) (b:Bd) (q:Pl) (j:Int):List Int:=((lsS t b q).sum * mainF b q)::((((frI b q).take j.toNat).filter fun i=>decide (1<(crossAt b q i.toNat).length)).map fun i=>crS t b q i.toNat)
section
variable {t:TS} {b:Bd} {q:Pl}
theorem crSm_step {i k:Int} (h0:0≤k):crSm t b q i (k+1)=crSm t b q i k+crE t b q i k:=by
 unfold crSm
 rw [show (k+1).toNat =k.toNat+1 from by omega,List.range_succ,List.map_append,List.sum_append]
 simp only [List.map_cons,List.map_nil,List.sum_cons,List.sum_nil,Int.add_zero]
 rw [show ((k.toNat:Nat):Int)=k from by omega]
theorem crSm_end {i k:Int} (hr:0≤q.row) (h0:0≤i) (h:k=((crossAt b q i.toNat).length : Int)):crSm t b q i k*factorV b q.row (q.col+i)=crS t b q i.toNat:=by
 unfold crSm crS factorV
 rw [h,Int.toNat_natCast,show ((i.toNat:Nat):Int)=i from by omega]
 congr 2
theorem crE_bd (h:TsOk t) {i k:Int} : 0≤crE t b q i k∧crE t b q i k≤60:=by
 unfold crE
 split
 ·exact lv_bd h
 ·have h1:=h.lo ((crossAt b q i.toNat).getD k.toNat 0)
  have h2:=h.hi ((crossAt b q i.toNat).getD k.toNat 0)
  omega
theorem crSm_bd (h:TsOk t) {i:Int} (k:Nat):0≤crSm t b q i k∧crSm t b q i k≤60*k:=by
 induction k with
 | zero=>exact⟨Int.le_refl 0,Int.le_refl 0⟩
 | succ k ih=>
   have h1:=crE_bd (b:=b) (q:=q) h (i:=i) (k:=k)
   have h2:=crSm_step (t:=t) (b:=b) (q:=q) (i:=i) (k:=k) (by omega)
   rw [show ((k+1:Nat):Int)=(k:Int)+1 from by omega,h2]
   omega
theorem partK_step {j:Int} (h0:0≤j) (h:j<(frI b q).length):partK t b q (j+1)=partK t b q j++(if 1<(crossAt b q (ixF b q j).toNat).length then [crS t b q (ixF b q j).toNat] else []):=by
 unfold partK ixF
 rw [tk h0 h 0,List.filter_append,List.map_append,List.cons_append]
 congr 2
 simp only [List.filter_cons,List.filter_nil,decide_eq_true_eq]
 split<;>rfl
theorem partK_end {j:Int} (h:((frI b q).length : Int)≤j):partK t b q j=partsS t b q:=by
 unfold partK partsS
 rw [tk_all h]
 unfold frI
 rw [List.filter_map,List.map_map]
 congr 1
theorem partK_len (j:Int):(partK t b q j).length ≤(frI b q).length + 1:=by
 unfold partK
 rw [List.length_cons,List.length_map]
 have h1:=List.length_filter_le (fun i:Int=>decide (1<(crossAt b q i.toNat).length)) ((frI b q).take j.toNat)
 rw [List.length_take] at h1
 omega
theorem ls_bd (h:TsOk t) : ∀x∈lsS t b q,0≤x∧x≤60:=by
 intro x hx
 obtain⟨i, -,rfl⟩:=List.mem_map.1 hx
 have h1:=h.lo (q.word.getD i 0)
 have h2:=h.hi (q.word.getD i 0)
 show 0≤(if _ then letterV t b q.row (q.col+i) (q.word.getD i 0) else _)∧(if _ then letterV t b q.row (q.col+i) (q.word.getD i 0) else _)≤60
 split
 ·exact lv_bd h
 ·omega
theorem sum_bd {M:Int} (L:List Int) (h : ∀x∈L,0≤x∧x≤M):0≤L.sum∧L.sum≤M*L.length:=by
 induction L with
 | nil=>simp
 | cons x r ih=>
   have h1:=h x (List.mem_cons_self ..)
   have h2:=ih fun y hy=>h y (List.mem_cons_of_mem _ hy)
   rw [List.sum_cons,List.length_cons,Int.natCast_add,Int.mul_add]
   omega
theorem sum_tk_bd {M:Int} {L:List Int} (h : ∀x∈L,0≤x∧x≤M) (hm:0≤M) {k:Int} (h0:0≤k):0≤(L.take k.toNat).sum ∧(L.take k.toNat).sum ≤M*k:=by
 have h1:=sum_bd (L.take k.toNat) fun x hx=>h x (List.mem_of_mem_take hx)
 refine⟨h1.1,Int.le_trans h1.2 (Int.mul_le_mul_of_nonneg_left ?_ hm)⟩
 rw [List.length_take]
 omega
theorem mainF_bd (h:q.word.length≤15):1≤mainF b q∧mainF b q≤14348907:=by
 have h1:=mainK_bd (b:=b) h (frI b q).length
 rwa [mainK_end (Int.le_refl _)] at h1
theorem main_mul {s:Int} (h:q.word.length≤15) (h0:0≤s) (h1:s≤900):0≤s*mainF b q∧s*mainF b q≤12914016300:=by
 obtain⟨h2,h3⟩:=mainF_bd (b:=b) h
 have h4:=Int.mul_nonneg h0 (show 0≤mainF b q by omega)
 have h5:s*mainF b q≤900*14348907:=Int.mul_le_mul h1 h3 (by omega) (by omega)
 omega
end
def sp_s_l13Parts (p:Pr):FSpec:=fsp (ac (aP aTs) (ac (aP aBd) (a1 (aA aPl)))) (fun (t,b,q)=>LsP t b q) (fun (t,b,q)=>.osl 0) (fun (t,b,q)=>[(0,.own [.i .i64] (partsS t b q) 2)])
theorem ok_s_l13Parts:FOk Tryz.prog 216 (sp_s_l13Parts std):=by
 refine FOk.go (c:=cx std [(273,sp_s_l13Letters std),(274,sp_s_l13Main std),(217,sp_s_l12Fresh std),(275,sp_s_l12Cross std),(276,sp_s_l13Letter std),(253,sp_s_l02Value std),(277,sp_s_l13Factor std)] [] 0) (cx_ok (.cons ok_s_l13Letters (.cons ok_s_l13Main (.cons ok_s_l12Fresh (.cons ok_s_l12Cross (.cons ok_s_l13Letter (.cons ok_s_l02Value (.cons ok_s_l13Factor .nil))))))) .nil) mixed Tryz.func216 rfl rfl rfl (by kernel_rfl) ?_
 rintro ⟨t,b,q⟩ hp
 dsimp only at hp
 refine⟨rfl,?_⟩
 unfold sp_s_l13Letters sp_s_l13Main sp_s_l12Fresh sp_s_l12Cross sp_s_l13Letter sp_s_l02Value sp_s_l13Factor
 obtain⟨H,hH⟩ : ∃H:Hd (Int×Int),H=⟨fun (m,k)=>0≤k∧k≤(lsS t b q).length ∧m=((lsS t b q).take k.toNat).sum,fun (m,k)=>((lsS t b q).length - k).toNat,(· < ·)⟩:=⟨_,rfl⟩
 have hl : ∀m n,H.lt m n→m<n:=by subst hH;exact fun _ _ h=>h
 obtain⟨H2,hH2⟩ : ∃H:Hd (Int×List Int),H=⟨fun (j,L)=>0≤j∧j≤(frI b q).length ∧L=partK t b q j,fun (j,L)=>((frI b q).length - j).toNat,(· < ·)⟩:=⟨_,rfl⟩
 have hl2 : ∀m n,H2.lt m n→m<n:=by subst hH2;exact fun _ _ h=>h
 obtain⟨H3,hH3⟩ : ∃H:(Int×List Int)→Hd (Int×Int),H=fun (j,L)=>⟨fun (m,k)=>0≤k∧k≤(crossAt b q (ixF b q j).toNat).length ∧m=crSm t b q (ixF b q j) k,fun (m,k)=>((crossAt b q (ixF b q j).toNat).length - k).toNat,(· < ·)⟩:=⟨_,rfl⟩
 have hl3 : ∀x m n,(H3 x).lt m n→m<n:=by subst hH3;exact fun _ _ _ h=>h
 generalize hP:std=p,hB0:lsS=B0,hB1:mainF=B1,hB2:partsS=B2,hB3:crI'=B3,hB4:upI=B4,hB5:factorV=B5,hB6:letterV=B6,hB7:valT=B7,hB8:frI=B8,hB9:u8=B9
 cbv
 repeat' first
  | (refine fun (_:Unit)=>?_;cbv)
  | (refine Or.inr ⟨23,[],[.s 8 (.i .i64),.s 9 (.i .i64)],[],[],H,rfl,hl,?_,fun ((m,k):Int×Int) hk=>?_⟩<;>cbv)
  | (refine Or.inr ⟨44,[],[.s 12 (.i .i64),.o 2 [.i .i64]],[.s 10],[],H2,rfl,hl2,?_,fun ((j,L):Int×List Int) hk2=>?_⟩<;>cbv)
  | (refine Or.inr ⟨76,[],[.s 17 (.i .i64),.s 18 (.i .i64)],[],[],H3 (j,L),rfl,hl3 _,?_,fun ((m,k):Int×Int) hk3=>?_⟩<;>cbv)
  | (refine aI2 (fun h=>?_) (fun h=>?_)<;>cbv)
  | (refine aI2 ?_ ?_)
 all_goals subst hP hB0 hB1 hB2 hB3 hB4 hB5 hB6 hB7 hB8 hB9 hH hH2 hH3
 all_goals clear hl
 all_goals try dsimp only at hk
 all_goals clear hl2
 all_goals try dsimp only at hk2
 all_goals clear hl3
 all_goals try dsimp only at hk3
 all_goals try dsimp only
 all_goals have f1:=hp.on.len
 all_goals have f2:=hp.on.col
 all_goals have f3:=ls_len t b q
 all_goals have f4:=frI_len b q
 all_goals try exact fin
 ·obtain⟨q0,q1,rfl⟩:=hk
  have h1:k<(lsS t b q).length :=lt_of ‹_›
  have h5:=sum_tk_bd (ls_bd (b:=b) (q:=q) hp.ts) (by decide) (k:=k+1) (by omega)
  rw [sum_tk q0 h1] at h5
  exact in64 (by show _≤((lsS t b q).take k.toNat).sum + (lsS t b q).getD k.toNat 0∧((lsS t b q).take k.toNat).sum + (lsS t b q).getD k.toNat 0≤_;omega)
 ·obtain⟨q0,q1,rfl⟩:=hk
  have h1:k<(lsS t b q).length :=lt_of ‹_›
  have g1:k+1≤((lsS t b q).length : Int):=by omega
  refine⟨by show 0≤k+1;omega,g1,?_⟩
  exact (sum_tk q0 h1).symm
 ·obtain⟨q0,q1,rfl⟩:=hk
  have h1:((lsS t b q).length : Int)≤k:=ge_of ‹_›
  rw [tk_all h1]
  have h5:=sum_bd (lsS t b q) (ls_bd (b:=b) (q:=q) hp.ts)
  have h6:=main_mul (b:=b) f1 h5.1 (by omega)
  exact in64 (by show _≤(lsS t b q).sum * mainF b q∧(lsS t b q).sum * mainF b q≤_;omega)
 ·obtain⟨q0,q1,rfl⟩:=hk
  have h1:((lsS t b q).length : Int)≤k:=ge_of ‹_›
  rw [tk_all h1]
  exact⟨Int.le_refl 0,Int.natCast_nonneg _,rfl⟩
 all_goals obtain⟨p0,p1,rfl⟩:=hk2
 all_goals try (have j1:j<(frI b q).length :=lt_of ‹_›)
 all_goals try (have j2:0≤ixF b q j∧ixF b q j<q.word.length:=frI_bd p0 j1)
 all_goals try (have j3:=cross_q (b:=b) (q:=q) j2.1)
 all_goals try (have j4:=hp.on.at j2.1 j2.2)
 all_goals try (have j5:j+1≤((frI b q).length : Int):=by omega)
 ·exact in64 (by show _≤q.col+ixF b q j∧q.col+ixF b q j≤_;omega)
 ·exact j2
 ·exact⟨j4.fit,j4.inn⟩
 ·refine⟨by show 0≤j+1;omega,j5,?_⟩
  have h6:std.ltI (std.lenS (crI' b q.row (q.col+ixF b q j) (std.byte q.word (ixF b q j)))) 2=true:=by assumption
  rw [j3] at h6
  show partK t b q j=partK t b q (j+1)
  rw [partK_step p0 j1,if_neg (by have h7:=lt_of h6;simp only [sd_lenS] at h7;omega),List.append_nil]
 ·exact⟨Int.le_refl 0,Int.natCast_nonneg _,rfl⟩
 all_goals try (obtain⟨q0,q1,rfl⟩:=hk3)
 all_goals try (have k2:=cross_len b q (ixF b q j).toNat)
 all_goals try (have k3:=crSm_bd (b:=b) (q:=q) hp.ts (i:=ixF b q j) k.toNat;rw [Int.toNat_of_nonneg q0] at k3)
 all_goals try (have k4:=crSm_bd (b:=b) (q:=q) hp.ts (i:=ixF b q j) (k+1).toNat)
 all_goals try (rw [Int.toNat_of_nonneg (show 0≤k+1 by omega),crSm_step q0] at k4)
 all_goals try (have k1:k<(crossAt b q (ixF b q j).toNat).length :=by have k9:std.ltI k (std.lenS (crI' b q.row (q.col+ixF b q j) (std.byte q.word (ixF b q j))))=true:=‹_›;rw [j3] at k9;exact lt_of k9)
 all_goals try (have g1:k+1≤((crossAt b q (ixF b q j).toNat).length : Int):=by omega)
 ·have h5:=upI_bd b (c:=q.col+ixF b q j) (r:=q.row) (by omega)
  exact in64 (by show _≤upI b (q.col+ixF b q j) q.row+k∧upI b (q.col+ixF b q j) q.row+k≤_;omega)
 ·exact⟨byte_in,hp.ts,j4⟩
 ·have h5:=lv_bd (b:=b) (r:=q.row) (c:=q.col+ixF b q j) (l:=u8 (std.byte q.word (ixF b q j))) hp.ts
  exact in64 (by show _≤crSm t b q (ixF b q j) k+letterV t b q.row (q.col+ixF b q j) (u8 (std.byte q.word (ixF b q j)))∧crSm t b q (ixF b q j) k+letterV t b q.row (q.col+ixF b q j) (u8 (std.byte q.word (ixF b q j)))≤_;omega)
 ·exact in64 (by show _≤k+1∧k+1≤_;omega)
 ·refine⟨by show 0≤k+1;omega,g1,?_⟩
  have h6:std.eqI (upI b (q.col+ixF b q j) q.row+k) q.row=true:=by assumption
  have h7:upI b (q.col+ixF b q j) q.row+k=q.row:=by simpa using h6
  show crSm t b q (ixF b q j) k+letterV t b q.row (q.col+ixF b q j) (u8 (std.byte q.word (ixF b q j)))=crSm t b q (ixF b q j) (k+1)
  rw [crSm_step q0]
  unfold crE
  rw [if_pos h7,u8_byte]
 ·show (((crossAt b q (ixF b q j).toNat).length : Int)-(k+1)).toNat < (((crossAt b q (ixF b q j).toNat).length : Int)-k).toNat
  omega
 ·have h5:=hp.ts.lo (u8 (std.byte (crI' b q.row (q.col+ixF b q j) (std.byte q.word (ixF b q j))) k))
  have h6:=hp.ts.hi (u8 (std.byte (crI' b q.row (q.col+ixF b q j) (std.byte q.word (ixF b q j))) k))
  exact in64 (by show _≤crSm t b q (ixF b q j) k+valT t (u8 (std.byte (crI' b q.row (q.col+ixF b q j) (std.byte q.word (ixF b q j))) k))∧crSm t b q (ixF b q j) k+valT t (u8 (std.byte (crI' b q.row (q.col+ixF b q j) (std.byte q.word (ixF b q j))) k))≤_;omega)
 ·exact in64 (by show _≤k+1∧k+1≤_;omega)
 ·refine⟨by show 0≤k+1;omega,g1,?_⟩
  have h6:std.eqI (upI b (q.col+ixF b q j) q.row+k) q.row=false:=by assumption
  have h7 : ¬upI b (q.col+ixF b q j) q.row+k=q.row:=by simpa using h6
  show crSm t b q (ixF b q j) k+valT t (u8 (std.byte (crI' b q.row (q.col+ixF b q j) (std.byte q.word (ixF b q j))) k))=crSm t b q (ixF b q j) (k+1)
  rw [crSm_step q0,j3]
  unfold crE
  rw [if_neg h7,u8_byte]
 ·show (((crossAt b q (ixF b q j).toNat).length : Int)-(k+1)).toNat < (((crossAt b q (ixF b q j).toNat).length : Int)-k).toNat
  omega
 all_goals try (have k5:k=((crossAt b q (ixF b q j).toNat).length : Int):=by have k9:std.ltI k (std.lenS (crI' b q.row (q.col+ixF b q j) (std.byte q.word (ixF b q j))))=false:=‹_›;rw [j3] at k9;exact Int.le_antisymm q1 (ge_of k9))
 all_goals try (have k6:=crSm_end (t:=t) (b:=b) (q:=q) (i:=ixF b q j) (k:=k) (by omega) j2.1 k5)
 ·exact j4
 ·obtain⟨h5,h6⟩:=fv_bd (b:=b) (r:=q.row) (c:=q.col+ixF b q j)
  have h7:=Int.mul_nonneg k3.1 (show 0≤factorV b q.row (q.col+ixF b q j) by omega)
  have h8:crSm t b q (ixF b q j) k*factorV b q.row (q.col+ixF b q j)≤960*3:=Int.mul_le_mul (by omega) h6 (by omega) (by omega)
  exact in64 (by show _≤crSm t b q (ixF b q j) k*factorV b q.row (q.col+ixF b q j)∧crSm t b q (ixF b q j) k*factorV b q.row (q.col+ixF b q j)≤_;omega)
 ·have h5:=partK_len (t:=t) (b:=b) (q:=q) j
  show ((partK t b q j).length : Int)+1≤274877906944
  omega
 ·refine⟨by show 0≤j+1;omega,j5,?_⟩
  have h6:std.ltI (std.lenS (crI' b q.row (q.col+ixF b q j) (std.byte q.word (ixF b q j)))) 2=false:=by assumption
  rw [j3] at h6
  show partK t b q j++[crSm t b q (ixF b q j) k*factorV b q.row (q.col+ixF b q j)]=partK t b q (j+1)
  rw [partK_step p0 j1,k6,if_pos (by have h7:=ge_of h6;simp only [sd_lenS] at h7;omega)]
 ·rw [partK_end (ge_of ‹_›)]
theorem parts_bd {t:TS} {b:Bd} {q:Pl} (h:TsOk t) (hr:0≤q.row) (hq:q.word.length≤15) : ∀x∈partsS t b q,0≤x∧x≤12914016300:=by
 intro x hx
 rcases List.mem_cons.1 hx with rfl | hx
 ·have h1:=sum_bd (lsS t b q) (ls_bd h)
  rw [ls_len] at h1
  exact main_mul hq h1.1 (by omega)
 ·obtain⟨i, -,rfl⟩:=List.mem_map.1 hx
  have h0:=crSm_end (t:=t) (b:=b) (q:=q) (i:=(i:Int)) hr (by omega) rfl
  rw [Int.toNat_natCast] at h0
  rw [←h0]
  have k2:=cross_len b q i
  have k3:=crSm_bd (b:=b) (q:=q) h (i:=(i:Int)) (crossAt b q i).length
  obtain⟨h5,h6⟩:=fv_bd (b:=b) (r:=q.row) (c:=q.col+(i:Int))
  have h7:=Int.mul_nonneg k3.1 (show 0≤factorV b q.row (q.col+(i:Int)) by omega)
  have h8:crSm t b q i (crossAt b q i).length * factorV b q.row (q.col+(i:Int))≤960*3:=Int.mul_le_mul (by omega) h6 (by omega) (by omega)
  omega
theorem parts_n (t:TS) (b:Bd) (q:Pl):(partsS t b q).length ≤q.word.length+1:=by
 have h1:=partK_len (t:=t) (b:=b) (q:=q) (frI b q).length
 rw [partK_end (Int.le_refl _)] at h1
 have h2:=frI_len b q
 omega
def scoreV (t:TS) (b:Bd) (q:Pl):Int:=scoreS t (flatB b q) (flatP q)
theorem score_7 {t:TS} {b:Bd} {q:Pl} (h:std.eqI (std.len (frI (flatB b q) (flatP q))) 7=true):(partsS t (flatB b q) (flatP q)).sum + 50=scoreV t b q:=by
 simp only [sd_eqI,sd_len,fr_n,beq_iff_eq] at h
 unfold scoreV scoreS
 rw [if_pos (by omega)]
theorem score_n {t:TS} {b:Bd} {q:Pl} (h:std.eqI (std.len (frI (flatB b q) (flatP q))) 7=false):(partsS t (flatB b q) (flatP q)).sum =scoreV t b q:=by
 simp only [sd_eqI,sd_len,fr_n,beq_eq_false_iff_ne,ne_eq] at h
 unfold scoreV scoreS
 rw [if_neg (by omega),Int.add_zero]
structure ScP (t:TS) (b:Bd) (q:Pl):Prop where
 ts:TsOk t
 pl:PlP b q
def sp_s_l13Score (p:Pr):FSpec:=fsp (ac (aP aTs) (ac (aP aBd) (a1 (aA aPl)))) (fun (t,b,q)=>ScP t b q) (fun (t,b,q)=>.i .i64 (scoreV t b q))
theorem ok_s_l13Score:FOk Tryz.prog 123 (sp_s_l13Score std):=by
 refine FOk.go (c:=cx std [(125,sp_s_l12Flat std),(216,sp_s_l13Parts std),(217,sp_s_l12Fresh std)] [] 0) (cx_ok (.cons ok_s_l12Flat (.cons ok_s_l13Parts (.cons ok_s_l12Fresh .nil))) .nil) mixed Tryz.func123 rfl rfl rfl (by kernel_rfl) ?_
 rintro ⟨t,b,q⟩ hp
 dsimp only at hp
 refine⟨rfl,?_⟩
 unfold sp_s_l12Flat sp_s_l13Parts sp_s_l12Fresh
 obtain⟨H,hH⟩ : ∃H:Hd (Int×Int),H=⟨fun (m,k)=>0≤k∧k≤(partsS t (flatB b q) (flatP q)).length ∧m=((partsS t (flatB b q) (flatP q)).take k.toNat).sum,fun (m,k)=>((partsS t (flatB b q) (flatP q)).length - k).toNat,(· < ·)⟩:=⟨_,rfl⟩
 have hl : ∀m n,H.lt m n→m<n:=by subst hH;exact fun _ _ h=>h
 generalize hP:std=p,hB0:scoreV=B0,hB1:partsS=B1,hB2:flatB=B2,hB3:flatP=B3,hB4:frI=B4
 cbv
 repeat' first
  | (refine fun (_:Unit)=>?_;cbv)
  | (refine Or.inr ⟨21,[],[.s 10 (.i .i64),.s 11 (.i .i64)],[],[],H,rfl,hl,?_,fun ((m,k):Int×Int) hk=>?_⟩<;>cbv)
  | (refine aI2 (fun h=>?_) (fun h=>?_)<;>cbv)
  | (refine aI2 ?_ ?_)
 all_goals subst hP hB0 hB1 hB2 hB3 hB4 hH
 all_goals clear hl
 all_goals try dsimp only at hk
 all_goals try dsimp only
 all_goals have f1:=hp.pl.on.len
 all_goals have f2:=hp.pl.on.col
 all_goals have f3:=parts_n t (flatB b q) (flatP q)
 all_goals try exact fin
 ·exact⟨hp.ts,hp.pl.on⟩
 all_goals obtain⟨q0,q1,rfl⟩:=hk
 all_goals have h2:=parts_bd (b:=flatB b q) (q:=flatP q) hp.ts (by omega) f1
 all_goals have h3:=sum_tk_bd h2 (by decide) q0
 all_goals have f4:(partsS t (flatB b q) (flatP q)).length ≤16:=Nat.le_trans f3 (by omega)
 all_goals have f5:k≤((partsS t (flatB b q) (flatP q)).length : Int):=q1
 all_goals have f6:k≤16:=Int.le_trans f5 (Int.ofNat_le.2 f4)
 all_goals try (have h1:k<(partsS t (flatB b q) (flatP q)).length :=lt_of ‹_›)
 all_goals try (have g1:k+1≤((partsS t (flatB b q) (flatP q)).length : Int):=by omega)
 ·have h5:=sum_tk_bd h2 (by decide) (k:=k+1) (by omega)
  rw [sum_tk q0 h1] at h5
  exact in64 (by show _≤((partsS t (flatB b q) (flatP q)).take k.toNat).sum + (partsS t (flatB b q) (flatP q)).getD k.toNat 0∧((partsS t (flatB b q) (flatP q)).take k.toNat).sum + (partsS t (flatB b q) (flatP q)).getD k.toNat 0≤_;omega)
 ·refine⟨by show 0≤k+1;omega,g1,?_⟩
  exact (sum_tk q0 h1).symm
 ·exact in64 (by show _≤((partsS t (flatB b q) (flatP q)).take k.toNat).sum + 50∧((partsS t (flatB b q) (flatP q)).take k.toNat).sum + 50≤_;omega)
 ·rw [tk_all (ge_of ‹_›)]
  exact score_7 ‹_›
 ·rw [tk_all (ge_of ‹_›)]
  exact score_n ‹_›
end Ax
namespace Ax
set_option maxRecDepth 100000
set_option maxHeartbeats 2000000
structure Su where
 ts:TS
 lex:List (List UInt8)
 bd:Bd
 secs:Int
 rule:Int
def gSu (g:Gm):Su:=⟨g.ts,g.lex,g.bd0,g.secs,g.rule⟩
def suK (u:Su) (v c l:PV):List PV:=[.s u.ts.letters,v,c,.i .i64 u.ts.blanks,l,.i .i64 u.bd.size,.s u.bd.prem,.s u.bd.cells,.i .i64 u.secs,.i .i64 u.rule]
def suOf:List PV→Option Su
 | [.s a,.rsl [.i .i64] v,.rsl [.i .i64] c,.i .i64 d,.rsl [.s] l,.i .i64 e,.s f,.s h,.i .i64 m,.i .i64 n]=>some ⟨⟨a,v,c,d⟩,l,⟨e,f,h⟩,m,n⟩
 | _=>none
theorem suOf_eq {l:List PV} {u:Su} (h:suOf l=some u):l=suK u (.rsl [.i .i64] u.ts.values) (.rsl [.i .i64] u.ts.counts) (.rsl [.s] u.lex):=by
 unfold suOf at h
 split at h
 ·cases h;rfl
 ·cases h
def aSu:Args Su:=⟨suOf,fun u=>suK u (.rsl [.i .i64] u.ts.values) (.rsl [.i .i64] u.ts.counts) (.rsl [.s] u.lex),fun _ _=>suOf_eq⟩
def sp_s_l18Points (p:Pr):FSpec:=fsp (a1 aI) (fun n=>True) (fun n=>.b (inR n (-50000) 50000))
theorem ok_s_l18Points:FOk Tryz.prog 124 (sp_s_l18Points std):=by
 refine FOk.go (c:=cx std [(89,sp_s_l00In std)] [] 0) (cx_ok (.cons ok_s_l00In .nil) .nil) mixed Tryz.func124 rfl rfl rfl (by kernel_rfl) ?_
 rintro n hp
 refine⟨rfl,?_⟩
 unfold sp_s_l00In
 generalize hP:std=p,hB0:inR=B0
 cbv
 repeat' first
  | (refine fun (_:Unit)=>?_;cbv)
  | (refine aI2 (fun h=>?_) (fun h=>?_)<;>cbv)
  | (refine aI2 ?_ ?_)
  | (refine Or.inl (fun (_:Unit)=>?_);cbv)
 all_goals subst hP hB0
 all_goals try exact fin
def sp_s_l18Board (p:Pr):FSpec:=fsp (ac (aP aGm) (a1 aS)) (fun (g,s)=>True) (fun (g,s)=>.agg [.i .i64 g.bd.size,.s g.bd.prem,.s s])
theorem ok_s_l18Board:FOk Tryz.prog 224 (sp_s_l18Board std):=by
 refine FOk.go (c:=cx std [] [] 0) (cx_ok .nil .nil) mixed Tryz.func224 rfl rfl rfl (by kernel_rfl) ?_
 rintro ⟨g,s⟩ hp
 dsimp only at hp
 refine⟨rfl,?_⟩
 generalize hP:std=p
 cbv
 repeat' first
  | (refine fun (_:Unit)=>?_;cbv)
  | (refine aI2 (fun h=>?_) (fun h=>?_)<;>cbv)
  | (refine aI2 ?_ ?_)
  | (refine Or.inl (fun (_:Unit)=>?_);cbv)
 all_goals subst hP
 all_goals try exact fin
structure PlyP (g:Gm):Prop where
 two:g.racks.length=2
 ply:g.player=0∨g.player=1
theorem ply_in {g:Gm} (hp:PlyP g):std.inL (std.sub 1 g.player) (std.len g.racks):=by
 have:=hp.two
 refine⟨?_,?_⟩
 ·show 0≤1-g.player
  rcases hp.ply with h | h<;>omega
 ·show 1-g.player<(g.racks.length:Int)
  rcases hp.ply with h | h<;>omega
theorem wa_y {g:Gm} (h:std.eqS g.bag []=true):std.eqS (std.get [] g.racks (std.sub 1 g.player)) []=waitsB g:=by
 have h:g.bag=[]:=by simpa using h
 unfold waitsB Gm.rk
 rw [h,Bool.eq_iff_iff]
 simp
theorem wa_n {g:Gm} (h:std.eqS g.bag []=false):waitsB g=false:=by
 have h:g.bag≠[]:=by simpa using h
 unfold waitsB
 rw [Bool.and_eq_false_iff]
 left
 simp [h]
def sp_s_l18Waits (p:Pr):FSpec:=fsp (a1 (aP aGm)) (fun g=>PlyP g) (fun g=>.b (waitsB g))
theorem ok_s_l18Waits:FOk Tryz.prog 121 (sp_s_l18Waits std):=by
 refine FOk.go (c:=cx std [] [] 0) (cx_ok .nil .nil) mixed Tryz.func121 rfl rfl rfl (by kernel_rfl) ?_
 rintro g hp
 refine⟨rfl,?_⟩
 generalize hP:std=p,hB0:waitsB=B0
 cbv
 repeat' first
  | (refine fun (_:Unit)=>?_;cbv)
  | (refine aI2 (fun h=>?_) (fun h=>?_)<;>cbv)
  | (refine aI2 ?_ ?_)
  | (refine Or.inl (fun (_:Unit)=>?_);cbv)
 all_goals subst hP hB0
 all_goals try exact fin
 ·exact in64 (by show _≤1-g.player∧1-g.player≤_;rcases hp.ply with h | h<;>omega)
 ·exact ply_in hp
 ·exact wa_y ‹_›
 ·exact wa_n ‹_›
structure OwnP (u:Su):Prop where
 v:u.ts.values.length≤274877906944
 c:u.ts.counts.length≤274877906944
 l:u.lex.length≤274877906944
def sp_s_l18OwnSetup (p:Pr):FSpec:=fsp (a1 (aP aSu)) (fun u=>OwnP u) (fun u=>.agg (suK u (.osl 0) (.osl 1) (.osl 2))) (fun u=>[(0,.own [.i .i64] u.ts.values 2),(1,.own [.i .i64] u.ts.counts 2),(2,.own [.s] u.lex 9)])
theorem ok_s_l18OwnSetup:FOk Tryz.prog 75 (sp_s_l18OwnSetup std):=by
 refine FOk.go (c:=cx std [(175,sp_s_l02Own std)] [] 0) (cx_ok (.cons ok_s_l02Own .nil) .nil) mixed Tryz.func75 rfl rfl rfl (by kernel_rfl) ?_
 rintro u hp
 refine⟨rfl,?_⟩
 unfold sp_s_l02Own
 generalize hP:std=p
 cbv
 repeat' first
  | (refine fun (_:Unit)=>?_;cbv)
  | (refine aI2 (fun h=>?_) (fun h=>?_)<;>cbv)
  | (refine aI2 ?_ ?_)
  | (refine Or.inl (fun (_:Unit)=>?_);cbv)
 all_goals subst hP
 all_goals try exact fin
 ·exact ltM_of hp.v
 ·exact ltM_of hp.c
 ·show (0:Int)+u.lex.length≤274877906944
  have:=hp.l;omega
structure GmP (g:Gm):Prop where
 su:OwnP (gSu g)
 r:g.racks.length≤274877906944
 s:g.scores.length≤274877906944
 k:g.clocks.length≤274877906944
def sp_s_l18Own (p:Pr):FSpec:=fsp (a1 (aP aGm)) (fun g=>GmP g) (fun g=>.agg (gmK g (.osl 0) (.osl 1) (.osl 2) (.osl 3) (.osl 4) (.osl 5))) (fun g=>[(0,.own [.i .i64] g.ts.values 2),(1,.own [.i .i64] g.ts.counts 2),(2,.own [.s] g.lex 9),(3,.own [.s] g.racks 9),(4,.own [.i .i64] g.scores 2),(5,.own [.i .i64] g.clocks 2)])
theorem ok_s_l18Own:FOk Tryz.prog 108 (sp_s_l18Own std):=by
 refine FOk.go (c:=cx std [(75,sp_s_l18OwnSetup std),(194,sp_s_l00Own std)] [] 0) (cx_ok (.cons ok_s_l18OwnSetup (.cons ok_s_l00Own .nil)) .nil) mixed Tryz.func108 rfl rfl rfl (by kernel_rfl) ?_
 rintro g hp
 refine⟨rfl,?_⟩
 unfold sp_s_l18OwnSetup sp_s_l00Own
 generalize hP:std=p
 cbv
 repeat' first
  | (refine fun (_:Unit)=>?_;cbv)
  | (refine aI2 (fun h=>?_) (fun h=>?_)<;>cbv)
  | (refine aI2 ?_ ?_)
  | (refine Or.inl (fun (_:Unit)=>?_);cbv)
 all_goals subst hP
 all_goals try exact fin
 ·exact hp.su
 ·show (0:Int)+g.racks.length≤274877906944
  have:=hp.r;omega
 ·exact ltM_of hp.s
 ·exact ltM_of hp.k
end Ax
namespace Ax
set_option maxRecDepth 100000
set_option maxHeartbeats 2000000
@[simp] theorem eta_su (g:Gm):Su.mk g.ts g.lex g.bd0 g.secs g.rule=gSu g:=rfl
section
variable {n:Int} {g:Gm}
end
end Ax
end Go.Proofs.YtjjonmhpgkahoaaGreatDoor
