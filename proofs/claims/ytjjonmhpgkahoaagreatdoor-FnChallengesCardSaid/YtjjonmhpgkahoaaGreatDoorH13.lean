/-
  Boards after plays and scores, of the spec package.
  Conditions: none.
-/
import Derived.Test.YtjjonmhpgkahoaaGreatDoorH12
set_option linter.unusedSimpArgs false
set_option linter.unusedVariables false
namespace Go.Proofs.YtjjonmhpgkahoaaGreatDoor
namespace Ax
set_option maxRecDepth 100000
theorem A4 (f:Bd) (p:Pl) (k:Nat):(f9 f p k).length =f.cells.length:=by
 unfold f9
 generalize List.range k=l
 suffices h : ∀(l:List Nat) (s:List UInt8),(l.foldl (fun s i=>s.set ((p.row*f.size+p.col).toNat + i) (p.word.getD i 0)) s).length =s.length from h l _
 intro l
 induction l with
 | nil=>intro s;rfl
 | cons x r ih=>intro s;rw [List.foldl_cons,ih,List.length_set]
theorem Ls {f:Bd} {p:Pl} {k:Int} (h0:0≤k) (h1:0≤p.row*f.size+p.col):f9 f p (k+1).toNat =(f9 f p k.toNat).set (p.row*f.size+p.col+k).toNat (p.word.getD k.toNat 0):=by
 have e:(k+1).toNat =k.toNat+1:=by omega
 have e2:(p.row*f.size+p.col+k).toNat =(p.row*f.size+p.col).toNat + k.toNat:=by omega
 rw [e,e2]
 unfold f9
 rw [List.range_succ,List.foldl_append]
 rfl
theorem Sl {b:Bd} {q:Pl} (h:OnR b q):0≤q.row*b.size∧q.row*b.size≤225∧0≤q.row*b.size+q.col∧q.row*b.size+q.col+q.word.length≤b.cells.length∧(b.cells.length:Int)≤225:=by
 obtain⟨⟨a1,a2⟩,a3,a4⟩:=cK.1 h.inn
 have h2:=GZ (n:=b.size) (by simp [inR,h.fit.lo,h.fit.hi])
 have h3:=h.out
 have h4:=h.fit.cells
 have h5:=Int.mul_nonneg a1 (show 0≤b.size by omega)
 have h6:=Int.mul_le_mul_of_nonneg_right (show q.row≤b.size-1 by omega) (show 0≤b.size by omega)
 have h7:(b.size-1)*b.size=b.size*b.size-b.size:=by rw [Int.sub_mul,Int.one_mul]
 omega
theorem Qc {b:Bd} {q:Pl} (h:q.down=true):fL b q=⟨(af b q).size,nc (af b q).size (af b q).prem,nc (af b q).size (f9 (af b q) (ab q) (ab q).word.length)⟩:=by unfold fL;rw [if_pos h];rfl
theorem P2 {b:Bd} {q:Pl} (h:q.down=false):fL b q=⟨(af b q).size,(af b q).prem,f9 (af b q) (ab q) (ab q).word.length⟩:=by unfold fL;rw [if_neg (by rw [h];exact Bool.false_ne_true)];rfl
def eA (p:Pr):aa:=fsp (ac (aP aBd) (a1 (aA aPl))) (fun (b,q)=>PlP b q) (fun (b,q)=>.agg [.i .i64 (fL b q).size,.s (fL b q).prem,.s (fL b q).cells])
theorem n5:FOk Tryz.prog 130 (eA std):=by
 refine FOk.go (c:=cx std [(125,aJ std),(195,dG std)] [] 0) (ae (.cons cB (.cons lX .nil)) .nil) mixed Tryz.func130 rfl rfl rfl (by kernel_rfl) ?_
 rintro ⟨b,q⟩ hp
 dsimp only at hp
 refine⟨rfl,?_⟩
 unfold aJ dG
 obtain⟨H,hH⟩ : ∃H:Hd (Int×List Int),H=⟨fun (k,L)=>0≤k∧k≤(ab q).word.length ∧L=aq (f9 (af b q) (ab q) k.toNat),fun (k,L)=>((ab q).word.length - k).toNat,(· < ·)⟩:=⟨_,rfl⟩
 have hl:=hdl hH
 generalize hP:std=p,hB0:fL=B0,hB1:f9=B1,hB2:nc=B2,hB3:af=B3,hB4:ab=B4
 cbv
 repeat' first|refine fun (_:Unit)=>?_;cbv|refine Or.inr ⟨19,[],[.s 8 (.i .i64),.o 4 [.i .u8]],[],[],H,rfl,hl,?_,fun ((k,L):Int×List Int) hk=>?_⟩<;>cbv|refine aI2 (fun h=>?_) (fun h=>?_)<;>cbv|refine aI2 ?_ ?_
 all_goals subst hP hB0 hB1 hB2 hB3 hB4 hH
 all_goals clear hl
 all_goals try dsimp only at hk
 all_goals try dsimp only
 all_goals have f1:=hp.on.len
 all_goals have f2:=Sl hp.on
 all_goals try exact fin
 ·exact⟨Int.le_refl 0,Int.natCast_nonneg _,rfl⟩
 all_goals obtain⟨q0,q1,rfl⟩:=hk
 all_goals obtain⟨i1,i2,i3,i4,i5⟩:=f2
 all_goals try (have h1:k<(ab q).word.length :=ah ‹_›)
 ·have h2:=A4 (af b q) (ab q) k.toNat
  show 0≤(ab q).row * (af b q).size + (ab q).col + k∧(ab q).row * (af b q).size + (ab q).col + k<((aq (f9 (af b q) (ab q) k.toNat)).length : Int)
  rw [bu]
  omega
 ·have h2:=A4 (af b q) (ab q) k.toNat
  show 0≤(ab q).row * (af b q).size + (ab q).col + k∧(ab q).row * (af b q).size + (ab q).col + k<((aq (f9 (af b q) (ab q) k.toNat)).length : Int)
  rw [bu]
  omega
 ·have g1:k+1≤((ab q).word.length : Int):=by omega
  refine⟨by show 0≤k+1;omega,g1,?_⟩
  show (aq (f9 (af b q) (ab q) k.toNat)).set ((ab q).row * (af b q).size + (ab q).col + k).toNat (((ab q).word.getD k.toNat 0).toNat : Int)=aq (f9 (af b q) (ab q) (k+1).toNat)
  rw [kI,Ls q0 i3]
 all_goals have e:k=((ab q).word.length : Int):=Int.le_antisymm q1 (ao (b:=((ab q).word.length : Int)) ‹_›)
 all_goals try rw [Qc (show q.down=true by assumption)]
 all_goals try rw [P2 (show q.down=false by assumption)]
 ·have h2:=hp.on.fit
  refine⟨h2.lo,h2.hi,h2.prem,?_⟩
  show (((fZ (aq (f9 (af b q) (ab q) k.toNat))).length : Nat):Int)=(af b q).size * (af b q).size
  rw [cJ,A4,h2.cells]
 ·show nc (af b q).size (fZ (aq (f9 (af b q) (ab q) k.toNat)))=nc (af b q).size (f9 (af b q) (ab q) (ab q).word.length)
  rw [cJ,e,Int.toNat_natCast]
 ·show fZ (aq (f9 (af b q) (ab q) k.toNat))=f9 (af b q) (ab q) (ab q).word.length
  rw [cJ,e,Int.toNat_natCast]
def s9 (b:Bd) (r c:Int):Int:=(b.prm r c).toNat
theorem Q4 {b:Bd} {r c:Int} (h:AtP b r c):(0≤r*b.size∧r*b.size≤225)∧(0≤r*b.size+c∧r*b.size+c<b.prem.length∧(b.prem.length:Int)≤225):=by
 have h1:=E1 h
 have h2:=h.fit.cells
 have h3:=h.fit.prem
 omega
def eO (p:Pr):aa:=fsp (ac (aP aBd) (ac aI (a1 aI))) (fun (b,r,c)=>AtP b r c) (fun (b,r,c)=>.i .u8 (s9 b r c))
theorem ow:FOk Tryz.prog 308 (eO std):=by
 refine FOk.go (c:=cx std [] [] 0) (ae .nil .nil) mixed Tryz.func308 rfl rfl rfl (by kernel_rfl) ?_
 rintro ⟨b,r,c⟩ hp
 dsimp only at hp
 refine⟨rfl,?_⟩
 generalize hP:std=p,hB0:s9=B0
 cbv
 repeat' first|refine fun (_:Unit)=>?_;cbv|refine aI2 (fun h=>?_) (fun h=>?_)<;>cbv|refine aI2 ?_ ?_|refine Or.inl (fun (_:Unit)=>?_);cbv
 all_goals subst hP hB0
 all_goals have f1:=Q4 hp
 all_goals try exact fin
theorem yy {c:UInt8} (n:Nat) (hn:n<256):std.eqI (c.toNat:Int) n=(c==UInt8.ofNat n):=by
 rw [lu,Bool.eq_iff_iff,beq_iff_eq,beq_iff_eq]
 constructor
 ·intro h;rw [←UInt8.ofNat_toNat (x:=c),show c.toNat=n from by omega]
 ·intro h;rw [h,UInt8.toNat_ofNat',Nat.mod_eq_of_lt hn]
def cR (t:TS) (b:Bd) (r c:Int) (l:UInt8):Int:=ltF (b.prm r c)*cI t l
def bA (b:Bd) (r c:Int):Int:=wdF (b.prm r c)
section
variable {t:TS} {b:Bd} {r c:Int} {l:UInt8}
theorem Vc (h:std.eqI (s9 b r c) 50=true):2*cI t l=cR t b r c l:=by
 replace h:=(yy 50 (by decide)).symm.trans h
 unfold cR ltF;rw [if_pos (show (b.prm r c==50)=true from h)]
theorem VY (h0:std.eqI (s9 b r c) 50=false) (h:std.eqI (s9 b r c) 51=true):3*cI t l=cR t b r c l:=by
 replace h:=(yy 51 (by decide)).symm.trans h;replace h0:=(yy 50 (by decide)).symm.trans h0
 unfold cR ltF;rw [if_neg (by rw [show (b.prm r c==50)=false from h0];exact Bool.false_ne_true),if_pos (show (b.prm r c==51)=true from h)]
theorem VG (h0:std.eqI (s9 b r c) 50=false) (h:std.eqI (s9 b r c) 51=false):cI t l=cR t b r c l:=by
 replace h:=(yy 51 (by decide)).symm.trans h;replace h0:=(yy 50 (by decide)).symm.trans h0
 unfold cR ltF;rw [if_neg (by rw [show (b.prm r c==50)=false from h0];exact Bool.false_ne_true),if_neg (by rw [show (b.prm r c==51)=false from h];exact Bool.false_ne_true),Int.one_mul]
theorem UN (h:std.eqI (s9 b r c) 100=true):2=bA b r c:=by
 replace h:=(yy 100 (by decide)).symm.trans h
 unfold bA wdF;rw [if_pos (show (b.prm r c==100)=true from h)]
theorem Vq (h0:std.eqI (s9 b r c) 100=false) (h:std.eqI (s9 b r c) 116=true):3=bA b r c:=by
 replace h:=(yy 116 (by decide)).symm.trans h;replace h0:=(yy 100 (by decide)).symm.trans h0
 unfold bA wdF;rw [if_neg (by rw [show (b.prm r c==100)=false from h0];exact Bool.false_ne_true),if_pos (show (b.prm r c==116)=true from h)]
theorem U2 (h0:std.eqI (s9 b r c) 100=false) (h:std.eqI (s9 b r c) 116=false):1=bA b r c:=by
 replace h:=(yy 116 (by decide)).symm.trans h;replace h0:=(yy 100 (by decide)).symm.trans h0
 unfold bA wdF;rw [if_neg (by rw [show (b.prm r c==100)=false from h0];exact Bool.false_ne_true),if_neg (by rw [show (b.prm r c==116)=false from h];exact Bool.false_ne_true)]
theorem I2 (h:er t):0≤cR t b r c l∧cR t b r c l≤60:=by
 have h1:=h.lo l
 have h2:=h.hi l
 unfold cR ltF
 split
 ·omega
 ·split<;>omega
theorem KS:1≤bA b r c∧bA b r c≤3:=by
 unfold bA wdF
 split
 ·omega
 ·split<;>omega
end
structure LtP (t:TS) (b:Bd) (r c l:Int):Prop where
 l:std.inK .u8 l
 ts:er t
 at':AtP b r c
def fm (p:Pr):aa:=fsp (ac (aP aTs) (ac (aP aBd) (ac aI (ac aI (a1 aC))))) (fun (t,b,r,c,l)=>LtP t b r c l) (fun (t,b,r,c,l)=>.i .i64 (cR t b r c (u8 l)))
theorem o8:FOk Tryz.prog 276 (fm std):=by
 refine FOk.go (c:=cx std [(253,cU std),(308,eO std)] [] 0) (ae (.cons jL (.cons ow .nil)) .nil) mixed Tryz.func276 rfl rfl rfl (by kernel_rfl) ?_
 rintro ⟨t,b,r,c,l⟩ hp
 dsimp only at hp
 refine⟨rfl,?_⟩
 unfold cU eO
 generalize hP:std=p,hB0:cR=B0,hB1:s9=B1,hB2:cI=B2,hB3:u8=B3
 cbv
 repeat' first|refine fun (_:Unit)=>?_;cbv|refine aI2 (fun h=>?_) (fun h=>?_)<;>cbv|refine aI2 ?_ ?_|refine Or.inl (fun (_:Unit)=>?_);cbv
 all_goals subst hP hB0 hB1 hB2 hB3
 all_goals have f1:=hp.ts.lo (u8 l)
 all_goals have f2:=hp.ts.hi (u8 l)
 all_goals try exact fin
 ·exact hp.at'
 ·exact Vc ‹_›
 ·exact VY ‹_› ‹_›
 ·exact VG ‹_› ‹_›
def fi (p:Pr):aa:=fsp (ac (aP aBd) (ac aI (a1 aI))) (fun (b,r,c)=>AtP b r c) (fun (b,r,c)=>.i .i64 (bA b r c))
theorem pz:FOk Tryz.prog 277 (fi std):=by
 refine FOk.go (c:=cx std [(308,eO std)] [] 0) (ae (.cons ow .nil) .nil) mixed Tryz.func277 rfl rfl rfl (by kernel_rfl) ?_
 rintro ⟨b,r,c⟩ hp
 dsimp only at hp
 refine⟨rfl,?_⟩
 unfold eO
 generalize hP:std=p,hB0:s9=B0,hB1:bA=B1
 cbv
 repeat' first|refine fun (_:Unit)=>?_;cbv|refine aI2 (fun h=>?_) (fun h=>?_)<;>cbv|refine aI2 ?_ ?_|refine Or.inl (fun (_:Unit)=>?_);cbv
 all_goals subst hP hB0 hB1
 all_goals try exact fin
 ·exact UN ‹_›
 ·exact Vq ‹_› ‹_›
 ·exact U2 ‹_› ‹_›
theorem Fb (t:TS) (b:Bd) (q:Pl):(lsS t b q).length =q.word.length:=by unfold lsS;rw [List.length_map,List.length_range]
theorem Tu {t:TS} {b:Bd} {q:Pl} {k:Int} (h0:0≤k) (h:k<q.word.length):(lsS t b q).getD k.toNat 0=if atI b q.row (q.col+k)=46 then cR t b q.row (q.col+k) (q.word.getD k.toNat 0) else cI t (q.word.getD k.toNat 0):=by
 unfold lsS
 rw [List.getD_eq_getElem?_getD,List.getElem?_map,List.getElem?_range (by omega)]
 show (if b.at_ q.row (q.col+((k.toNat:Nat):Int))==46 then _ else _)=_
 rw [show ((k.toNat:Nat):Int)=k from by omega]
 have e:(b.at_ q.row (q.col+k)==46)=decide (atI b q.row (q.col+k)=46):=((yy 46 (by decide)).symm.trans (Bool.eq_iff_iff.2 (by rw [lu,beq_iff_eq,decide_eq_true_eq];rfl)))
 rw [e]
 simp only [decide_eq_true_eq]
 rfl
structure LsP (t:TS) (b:Bd) (q:Pl):Prop where
 ts:er t
 on:OnR b q
def kz (p:Pr):aa:=fsp (ac (aP aTs) (ac (aP aBd) (a1 (aA aPl)))) (fun (t,b,q)=>LsP t b q) (fun (t,b,q)=>.osl 0) (fun (t,b,q)=>[(0,.own [.i .i64] (lsS t b q) 2)])
theorem vF:FOk Tryz.prog 273 (kz std):=by
 refine FOk.go (c:=cx std [(197,dw std),(276,fm std),(253,cU std)] [] 0) (ae (.cons lA (.cons o8 (.cons jL .nil))) .nil) mixed Tryz.func273 rfl rfl rfl (by kernel_rfl) ?_
 rintro ⟨t,b,q⟩ hp
 dsimp only at hp
 refine⟨rfl,?_⟩
 unfold dw fm cU
 obtain⟨H,hH⟩ : ∃H:Hd (Int×List Int),H=⟨fun (k,L)=>0≤k∧k≤q.word.length∧L=(lsS t b q).take k.toNat,fun (k,L)=>(q.word.length-k).toNat,(· < ·)⟩:=⟨_,rfl⟩
 have hl:=hdl hH
 generalize hP:std=p,hB0:lsS=B0,hB1:cI=B1,hB2:cR=B2,hB3:atI=B3,hB4:u8=B4
 cbv
 repeat' first|refine fun (_:Unit)=>?_;cbv|refine Or.inr ⟨10,[],[.s 8 (.i .i64),.o 1 [.i .i64]],[.s 7],[],H,rfl,hl,?_,fun ((k,L):Int×List Int) hk=>?_⟩<;>cbv|refine aI2 (fun h=>?_) (fun h=>?_)<;>cbv|refine aI2 ?_ ?_
 all_goals subst hP hB0 hB1 hB2 hB3 hB4 hH
 all_goals clear hl
 all_goals try dsimp only at hk
 all_goals try dsimp only
 all_goals have f1:=hp.on.len
 all_goals have f2:=hp.on.col
 all_goals have f3:=Fb t b q
 all_goals try exact fin
 all_goals obtain⟨q0,q1,rfl⟩:=hk
 all_goals try (have h1:k<q.word.length:=ah ‹_›)
 all_goals try (have g1:k+1≤(q.word.length:Int):=by omega)
 all_goals try (have h2:=Tu (t:=t) (b:=b) q0 h1)
 ·exact hp.on.at q0 h1
 ·exact⟨Bo,hp.ts,hp.on.at q0 h1⟩
 ·show (((lsS t b q).take k.toNat).length : Int)+1≤_
  rw [List.length_take];omega
 ·refine⟨by show 0≤k+1;omega,g1,?_⟩
  have h3:atI b q.row (q.col+k)=46:=by have h4:std.eqI (atI b q.row (q.col+k)) 46=true:=by assumption
                                       simpa using h4
  rw [if_pos h3] at h2
  show (lsS t b q).take k.toNat++[cR t b q.row (q.col+k) (u8 (std.byte q.word k))]=(lsS t b q).take (k+1).toNat
  rw [tk q0 (by rw [f3];exact h1) 0,h2,jM]
 ·show (((lsS t b q).take k.toNat).length : Int)+1≤_
  rw [List.length_take];omega
 ·refine⟨by show 0≤k+1;omega,g1,?_⟩
  have h3 : ¬atI b q.row (q.col+k)=46:=by have h4:std.eqI (atI b q.row (q.col+k)) 46=false:=by assumption
                                          simpa using h4
  rw [if_neg h3] at h2
  show (lsS t b q).take k.toNat++[cI t (u8 (std.byte q.word k))]=(lsS t b q).take (k+1).toNat
  rw [tk q0 (by rw [f3];exact h1) 0,h2,jM]
 ·rw [bZ (by rw [f3];exact ao ‹_›)]
def qQ (b:Bd) (q:Pl) (k:Int):Int:=((frI b q).take k.toNat).foldl (fun a i=>a*bA b q.row (q.col+i)) 1
theorem LE (b:Bd) (r c:Int) (l:List Int) : ∀a:Int,1≤a→1≤l.foldl (fun a i=>a*bA b r (c+i)) a∧l.foldl (fun a i=>a*bA b r (c+i)) a≤a*3 ^ l.length:=by
 induction l with
 | nil=>intro a h;exact⟨h,by simp⟩
 | cons x l ih=>
   intro a h
   obtain⟨h1,h2⟩:=KS (b:=b) (r:=r) (c:=c+x)
   have h3:a*1≤a*bA b r (c+x):=Int.mul_le_mul_of_nonneg_left h1 (by omega)
   have h4:a*bA b r (c+x)≤a*3:=Int.mul_le_mul_of_nonneg_left h2 (by omega)
   obtain⟨h5,h6⟩:=ih (a*bA b r (c+x)) (by omega)
   refine⟨h5,Int.le_trans h6 ?_⟩
   rw [List.length_cons,Int.pow_succ,Int.mul_comm (3 ^ l.length) 3,←Int.mul_assoc]
   exact Int.mul_le_mul_of_nonneg_right h4 (Int.pow_nonneg (by decide))
theorem xX {b:Bd} {q:Pl} (h:q.word.length≤15) (k:Int):1≤qQ b q k∧qQ b q k≤14348907:=by
 obtain⟨h1,h2⟩:=LE b q.row q.col ((frI b q).take k.toNat) 1 (by decide)
 have h3:=kG b q
 have h4:((frI b q).take k.toNat).length ≤15:=by rw [List.length_take];omega
 refine⟨h1,Int.le_trans h2 ?_⟩
 rw [Int.one_mul]
 have h5:(3:Nat) ^ ((frI b q).take k.toNat).length ≤3 ^ 15:=Nat.pow_le_pow_right (by decide) h4
 have h6:((3 ^ ((frI b q).take k.toNat).length : Nat):Int)≤((3 ^ 15:Nat):Int):=Int.ofNat_le.2 h5
 rw [Int.natCast_pow] at h6
 exact h6
theorem xV {b:Bd} {q:Pl} {k:Int} (h0:0≤k) (h:k<(frI b q).length):qQ b q (k+1)=qQ b q k*bA b q.row (q.col+(frI b q).getD k.toNat 0):=by
 unfold qQ
 rw [tk h0 h 0,List.foldl_append];rfl
theorem Al {b:Bd} {q:Pl} {k:Int} (h:((frI b q).length : Int)≤k):qQ b q k=jW b q:=by
 unfold qQ jW
 rw [bZ h]
 unfold frI
 rw [List.foldl_map];rfl
def nF (p:Pr):aa:=fsp (ac (aP aBd) (a1 (aA aPl))) (fun (b,q)=>OnR b q) (fun (b,q)=>.i .i64 (jW b q))
theorem Cf:FOk Tryz.prog 274 (nF std):=by
 refine FOk.go (c:=cx std [(217,aU std),(277,fi std)] [] 0) (ae (.cons dj (.cons pz .nil)) .nil) mixed Tryz.func274 rfl rfl rfl (by kernel_rfl) ?_
 rintro ⟨b,q⟩ hp
 dsimp only at hp
 refine⟨rfl,?_⟩
 unfold aU fi
 obtain⟨H,hH⟩ : ∃H:Hd (Int×Int),H=⟨fun (m,k)=>0≤k∧k≤(frI b q).length ∧m=qQ b q k,fun (m,k)=>((frI b q).length - k).toNat,(· < ·)⟩:=⟨_,rfl⟩
 have hl:=hdl hH
 generalize hP:std=p,hB0:jW=B0,hB1:bA=B1,hB2:frI=B2
 cbv
 repeat' first|refine fun (_:Unit)=>?_;cbv|refine Or.inr ⟨11,[],[.s 6 (.i .i64),.s 7 (.i .i64)],[],[],H,rfl,hl,?_,fun ((m,k):Int×Int) hk=>?_⟩<;>cbv|refine aI2 (fun h=>?_) (fun h=>?_)<;>cbv|refine aI2 ?_ ?_
 all_goals subst hP hB0 hB1 hB2 hH
 all_goals clear hl
 all_goals try dsimp only at hk
 all_goals try dsimp only
 all_goals have f1:=hp.len
 all_goals have f2:=hp.col
 all_goals have f3:=kG b q
 all_goals try exact fin
 ·exact⟨Int.le_refl 0,Int.natCast_nonneg _,rfl⟩
 all_goals obtain⟨q0,q1,rfl⟩:=hk
 all_goals try (have h1:k<(frI b q).length :=ah ‹_›)
 all_goals try (have h2:=Be q0 h1)
 all_goals try (have g1:k+1≤((frI b q).length : Int):=by omega)
 all_goals have h3:=xX (b:=b) f1 k
 ·exact an (by show _≤q.col+(frI b q).getD k.toNat 0∧q.col+(frI b q).getD k.toNat 0≤_;omega)
 ·exact hp.at h2.1 h2.2
 ·have h4:=xX (b:=b) f1 (k+1)
  rw [xV q0 h1] at h4
  exact an (by show _≤qQ b q k*bA b q.row (q.col+(frI b q).getD k.toNat 0)∧qQ b q k*bA b q.row (q.col+(frI b q).getD k.toNat 0)≤_;omega)
 ·refine⟨by show 0≤k+1;omega,g1,?_⟩
  exact (xV q0 h1).symm
 ·exact Al (ao ‹_›)
set_option maxHeartbeats 2000000
theorem mI {L:List Int} {k:Int} (h0:0≤k) (h:k<L.length):(L.take (k+1).toNat).sum =(L.take k.toNat).sum + L.getD k.toNat 0:=by
 rw [tk h0 h 0,List.sum_append]
 simp
def crE (t:TS) (b:Bd) (q:Pl) (i k:Int):Int:=if upI b (q.col+i) q.row+k=q.row then cR t b q.row (q.col+i) (q.word.getD i.toNat 0) else cI t ((bq b q i.toNat).getD k.toNat 0)
def mw (t:TS) (b:Bd) (q:Pl) (i k:Int):Int:=((List.range k.toNat).map fun n:Nat=>crE t b q i n).sum
def ixF (b:Bd) (q:Pl) (j:Int):Int:=(frI b q).getD j.toNat 0
def ng (t:TS) (b:Bd) (q:Pl) (j:Int):List Int:=((lsS t b q).sum * jW b q)::((((frI b q).take j.toNat).filter fun i=>decide (1<(bq b q i.toNat).length)).map fun i=>crS t b q i.toNat)
section
variable {t:TS} {b:Bd} {q:Pl}
theorem p9 {i k:Int} (h0:0≤k):mw t b q i (k+1)=mw t b q i k+crE t b q i k:=by
 unfold mw
 rw [show (k+1).toNat =k.toNat+1 from by omega,List.range_succ,List.map_append,List.sum_append]
 simp only [List.map_cons,List.map_nil,List.sum_cons,List.sum_nil,Int.add_zero]
 rw [show ((k.toNat:Nat):Int)=k from by omega]
theorem C7 {i k:Int} (hr:0≤q.row) (h0:0≤i) (h:k=((bq b q i.toNat).length : Int)):mw t b q i k*bA b q.row (q.col+i)=crS t b q i.toNat:=by
 unfold mw crS bA
 rw [h,Int.toNat_natCast,show ((i.toNat:Nat):Int)=i from by omega]
 congr 2
theorem QH (h:er t) {i k:Int} : 0≤crE t b q i k∧crE t b q i k≤60:=by
 unfold crE
 split
 ·exact I2 h
 ·have h1:=h.lo ((bq b q i.toNat).getD k.toNat 0)
  have h2:=h.hi ((bq b q i.toNat).getD k.toNat 0)
  omega
theorem Bt (h:er t) {i:Int} (k:Nat):0≤mw t b q i k∧mw t b q i k≤60*k:=by
 induction k with
 | zero=>exact⟨Int.le_refl 0,Int.le_refl 0⟩
 | succ k ih=>
   have h1:=QH (b:=b) (q:=q) h (i:=i) (k:=k)
   have h2:=p9 (t:=t) (b:=b) (q:=q) (i:=i) (k:=k) (by omega)
   rw [show ((k+1:Nat):Int)=(k:Int)+1 from by omega,h2]
   omega
theorem xj {j:Int} (h0:0≤j) (h:j<(frI b q).length):ng t b q (j+1)=ng t b q j++(if 1<(bq b q (ixF b q j).toNat).length then [crS t b q (ixF b q j).toNat] else []):=by
 unfold ng ixF
 rw [tk h0 h 0,List.filter_append,List.map_append,List.cons_append]
 congr 2
 simp only [List.filter_cons,List.filter_nil,decide_eq_true_eq]
 split<;>rfl
theorem zz {j:Int} (h:((frI b q).length : Int)≤j):ng t b q j=c8 t b q:=by
 unfold ng c8
 rw [bZ h]
 unfold frI
 rw [List.filter_map,List.map_map]
 congr 1
theorem zC (j:Int):(ng t b q j).length ≤(frI b q).length + 1:=by
 unfold ng
 rw [List.length_cons,List.length_map]
 have h1:=List.length_filter_le (fun i:Int=>decide (1<(bq b q i.toNat).length)) ((frI b q).take j.toNat)
 rw [List.length_take] at h1
 omega
theorem LJ (h:er t) : ∀x∈lsS t b q,0≤x∧x≤60:=by
 intro x hx
 obtain⟨i, -,rfl⟩:=List.mem_map.1 hx
 have h1:=h.lo (q.word.getD i 0)
 have h2:=h.hi (q.word.getD i 0)
 show 0≤(if _ then cR t b q.row (q.col+i) (q.word.getD i 0) else _)∧(if _ then cR t b q.row (q.col+i) (q.word.getD i 0) else _)≤60
 split
 ·exact I2 h
 ·omega
theorem jv {M:Int} (L:List Int) (h : ∀x∈L,0≤x∧x≤M):0≤L.sum∧L.sum≤M*L.length:=by
 induction L with
 | nil=>simp
 | cons x r ih=>
   have h1:=h x (List.mem_cons_self ..)
   have h2:=ih fun y hy=>h y (List.mem_cons_of_mem _ hy)
   rw [List.sum_cons,List.length_cons,Int.natCast_add,Int.mul_add]
   omega
theorem mZ {M:Int} {L:List Int} (h : ∀x∈L,0≤x∧x≤M) (hm:0≤M) {k:Int} (h0:0≤k):0≤(L.take k.toNat).sum ∧(L.take k.toNat).sum ≤M*k:=by
 have h1:=jv (L.take k.toNat) fun x hx=>h x (List.mem_of_mem_take hx)
 refine⟨h1.1,Int.le_trans h1.2 (Int.mul_le_mul_of_nonneg_left ?_ hm)⟩
 rw [List.length_take]
 omega
theorem K9 (h:q.word.length≤15):1≤jW b q∧jW b q≤14348907:=by
 have h1:=xX (b:=b) h (frI b q).length
 rwa [Al (Int.le_refl _)] at h1
theorem D9 {s:Int} (h:q.word.length≤15) (h0:0≤s) (h1:s≤900):0≤s*jW b q∧s*jW b q≤12914016300:=by
 obtain⟨h2,h3⟩:=K9 (b:=b) h
 have h4:=Int.mul_nonneg h0 (show 0≤jW b q by omega)
 have h5:s*jW b q≤900*14348907:=Int.mul_le_mul h1 h3 (by omega) (by omega)
 omega
end
def mn (p:Pr):aa:=fsp (ac (aP aTs) (ac (aP aBd) (a1 (aA aPl)))) (fun (t,b,q)=>LsP t b q) (fun (t,b,q)=>.osl 0) (fun (t,b,q)=>[(0,.own [.i .i64] (c8 t b q) 2)])
theorem yG:FOk Tryz.prog 216 (mn std):=by
 refine FOk.go (c:=cx std [(273,kz std),(274,nF std),(217,aU std),(275,gx std),(276,fm std),(253,cU std),(277,fi std)] [] 0) (ae (.cons vF (.cons Cf (.cons dj (.cons qJ (.cons o8 (.cons jL (.cons pz .nil))))))) .nil) mixed Tryz.func216 rfl rfl rfl (by kernel_rfl) ?_
 rintro ⟨t,b,q⟩ hp
 dsimp only at hp
 refine⟨rfl,?_⟩
 unfold kz nF aU gx fm cU fi
 obtain⟨H,hH⟩ : ∃H:Hd (Int×Int),H=⟨fun (m,k)=>0≤k∧k≤(lsS t b q).length ∧m=((lsS t b q).take k.toNat).sum,fun (m,k)=>((lsS t b q).length - k).toNat,(· < ·)⟩:=⟨_,rfl⟩
 have hl:=hdl hH
 obtain⟨H2,hH2⟩ : ∃H:Hd (Int×List Int),H=⟨fun (j,L)=>0≤j∧j≤(frI b q).length ∧L=ng t b q j,fun (j,L)=>((frI b q).length - j).toNat,(· < ·)⟩:=⟨_,rfl⟩
 have hl2 : ∀m n,H2.lt m n→m<n:=by subst hH2;exact fun _ _ h=>h
 obtain⟨H3,hH3⟩ : ∃H:(Int×List Int)→Hd (Int×Int),H=fun (j,L)=>⟨fun (m,k)=>0≤k∧k≤(bq b q (ixF b q j).toNat).length ∧m=mw t b q (ixF b q j) k,fun (m,k)=>((bq b q (ixF b q j).toNat).length - k).toNat,(· < ·)⟩:=⟨_,rfl⟩
 have hl3 : ∀x m n,(H3 x).lt m n→m<n:=by subst hH3;exact fun _ _ _ h=>h
 generalize hP:std=p,hB0:lsS=B0,hB1:jW=B1,hB2:c8=B2,hB3:mc=B3,hB4:upI=B4,hB5:bA=B5,hB6:cR=B6,hB7:cI=B7,hB8:frI=B8,hB9:u8=B9
 cbv
 repeat' first|refine fun (_:Unit)=>?_;cbv|refine Or.inr ⟨23,[],[.s 8 (.i .i64),.s 9 (.i .i64)],[],[],H,rfl,hl,?_,fun ((m,k):Int×Int) hk=>?_⟩<;>cbv|refine Or.inr ⟨44,[],[.s 12 (.i .i64),.o 2 [.i .i64]],[.s 10],[],H2,rfl,hl2,?_,fun ((j,L):Int×List Int) hk2=>?_⟩<;>cbv|refine Or.inr ⟨76,[],[.s 17 (.i .i64),.s 18 (.i .i64)],[],[],H3 (j,L),rfl,hl3 _,?_,fun ((m,k):Int×Int) hk3=>?_⟩<;>cbv|refine aI2 (fun h=>?_) (fun h=>?_)<;>cbv|refine aI2 ?_ ?_
 all_goals subst hP hB0 hB1 hB2 hB3 hB4 hB5 hB6 hB7 hB8 hB9 hH hH2 hH3
 all_goals clear hl
 all_goals try dsimp only at hk
 all_goals clear hl2
 all_goals try dsimp only at hk2
 all_goals clear hl3
 all_goals try dsimp only at hk3
 all_goals try dsimp only
 all_goals have f1:=hp.on.len
 all_goals have f2:=hp.on.col
 all_goals have f3:=Fb t b q
 all_goals have f4:=kG b q
 all_goals try exact fin
 ·obtain⟨q0,q1,rfl⟩:=hk
  have h1:k<(lsS t b q).length :=ah ‹_›
  have h5:=mZ (LJ (b:=b) (q:=q) hp.ts) (by decide) (k:=k+1) (by omega)
  rw [mI q0 h1] at h5
  exact an (by show _≤((lsS t b q).take k.toNat).sum + (lsS t b q).getD k.toNat 0∧((lsS t b q).take k.toNat).sum + (lsS t b q).getD k.toNat 0≤_;omega)
 ·obtain⟨q0,q1,rfl⟩:=hk
  have h1:k<(lsS t b q).length :=ah ‹_›
  have g1:k+1≤((lsS t b q).length : Int):=by omega
  refine⟨by show 0≤k+1;omega,g1,?_⟩
  exact (mI q0 h1).symm
 ·obtain⟨q0,q1,rfl⟩:=hk
  have h1:((lsS t b q).length : Int)≤k:=ao ‹_›
  rw [bZ h1]
  have h5:=jv (lsS t b q) (LJ (b:=b) (q:=q) hp.ts)
  have h6:=D9 (b:=b) f1 h5.1 (by omega)
  exact an (by show _≤(lsS t b q).sum * jW b q∧(lsS t b q).sum * jW b q≤_;omega)
 ·obtain⟨q0,q1,rfl⟩:=hk
  have h1:((lsS t b q).length : Int)≤k:=ao ‹_›
  rw [bZ h1]
  exact⟨Int.le_refl 0,Int.natCast_nonneg _,rfl⟩
 all_goals obtain⟨p0,p1,rfl⟩:=hk2
 all_goals try (have j1:j<(frI b q).length :=ah ‹_›)
 all_goals try (have j2:0≤ixF b q j∧ixF b q j<q.word.length:=Be p0 j1)
 all_goals try (have j3:=FY (b:=b) (q:=q) j2.1)
 all_goals try (have j4:=hp.on.at j2.1 j2.2)
 all_goals try (have j5:j+1≤((frI b q).length : Int):=by omega)
 ·exact an (by show _≤q.col+ixF b q j∧q.col+ixF b q j≤_;omega)
 ·exact j2
 ·exact⟨j4.fit,j4.inn⟩
 ·refine⟨by show 0≤j+1;omega,j5,?_⟩
  have h6:std.ltI (std.lenS (mc b q.row (q.col+ixF b q j) (std.byte q.word (ixF b q j)))) 2=true:=by assumption
  rw [j3] at h6
  show ng t b q j=ng t b q (j+1)
  rw [xj p0 j1,if_neg (by have h7:=ah h6;simp only [gG] at h7;omega),List.append_nil]
 ·exact⟨Int.le_refl 0,Int.natCast_nonneg _,rfl⟩
 all_goals try (obtain⟨q0,q1,rfl⟩:=hk3)
 all_goals try (have k2:=ui b q (ixF b q j).toNat)
 all_goals try (have k3:=Bt (b:=b) (q:=q) hp.ts (i:=ixF b q j) k.toNat;rw [Int.toNat_of_nonneg q0] at k3)
 all_goals try (have k4:=Bt (b:=b) (q:=q) hp.ts (i:=ixF b q j) (k+1).toNat)
 all_goals try (rw [Int.toNat_of_nonneg (show 0≤k+1 by omega),p9 q0] at k4)
 all_goals try (have k1:k<(bq b q (ixF b q j).toNat).length :=by have k9:std.ltI k (std.lenS (mc b q.row (q.col+ixF b q j) (std.byte q.word (ixF b q j))))=true:=‹_›;rw [j3] at k9;exact ah k9)
 all_goals try (have g1:k+1≤((bq b q (ixF b q j).toNat).length : Int):=by omega)
 ·have h5:=Jr b (c:=q.col+ixF b q j) (r:=q.row) (by omega)
  exact an (by show _≤upI b (q.col+ixF b q j) q.row+k∧upI b (q.col+ixF b q j) q.row+k≤_;omega)
 ·exact⟨Bo,hp.ts,j4⟩
 ·have h5:=I2 (b:=b) (r:=q.row) (c:=q.col+ixF b q j) (l:=u8 (std.byte q.word (ixF b q j))) hp.ts
  exact an (by show _≤mw t b q (ixF b q j) k+cR t b q.row (q.col+ixF b q j) (u8 (std.byte q.word (ixF b q j)))∧mw t b q (ixF b q j) k+cR t b q.row (q.col+ixF b q j) (u8 (std.byte q.word (ixF b q j)))≤_;omega)
 ·exact an (by show _≤k+1∧k+1≤_;omega)
 ·refine⟨by show 0≤k+1;omega,g1,?_⟩
  have h6:std.eqI (upI b (q.col+ixF b q j) q.row+k) q.row=true:=by assumption
  have h7:upI b (q.col+ixF b q j) q.row+k=q.row:=by simpa using h6
  show mw t b q (ixF b q j) k+cR t b q.row (q.col+ixF b q j) (u8 (std.byte q.word (ixF b q j)))=mw t b q (ixF b q j) (k+1)
  rw [p9 q0]
  unfold crE
  rw [if_pos h7,jM]
 ·show (((bq b q (ixF b q j).toNat).length : Int)-(k+1)).toNat < (((bq b q (ixF b q j).toNat).length : Int)-k).toNat
  omega
 ·have h5:=hp.ts.lo (u8 (std.byte (mc b q.row (q.col+ixF b q j) (std.byte q.word (ixF b q j))) k))
  have h6:=hp.ts.hi (u8 (std.byte (mc b q.row (q.col+ixF b q j) (std.byte q.word (ixF b q j))) k))
  exact an (by show _≤mw t b q (ixF b q j) k+cI t (u8 (std.byte (mc b q.row (q.col+ixF b q j) (std.byte q.word (ixF b q j))) k))∧mw t b q (ixF b q j) k+cI t (u8 (std.byte (mc b q.row (q.col+ixF b q j) (std.byte q.word (ixF b q j))) k))≤_;omega)
 ·exact an (by show _≤k+1∧k+1≤_;omega)
 ·refine⟨by show 0≤k+1;omega,g1,?_⟩
  have h6:std.eqI (upI b (q.col+ixF b q j) q.row+k) q.row=false:=by assumption
  have h7 : ¬upI b (q.col+ixF b q j) q.row+k=q.row:=by simpa using h6
  show mw t b q (ixF b q j) k+cI t (u8 (std.byte (mc b q.row (q.col+ixF b q j) (std.byte q.word (ixF b q j))) k))=mw t b q (ixF b q j) (k+1)
  rw [p9 q0,j3]
  unfold crE
  rw [if_neg h7,jM]
 ·show (((bq b q (ixF b q j).toNat).length : Int)-(k+1)).toNat < (((bq b q (ixF b q j).toNat).length : Int)-k).toNat
  omega
 all_goals try (have k5:k=((bq b q (ixF b q j).toNat).length : Int):=by have k9:std.ltI k (std.lenS (mc b q.row (q.col+ixF b q j) (std.byte q.word (ixF b q j))))=false:=‹_›;rw [j3] at k9;exact Int.le_antisymm q1 (ao k9))
 all_goals try (have k6:=C7 (t:=t) (b:=b) (q:=q) (i:=ixF b q j) (k:=k) (by omega) j2.1 k5)
 ·exact j4
 ·obtain⟨h5,h6⟩:=KS (b:=b) (r:=q.row) (c:=q.col+ixF b q j)
  have h7:=Int.mul_nonneg k3.1 (show 0≤bA b q.row (q.col+ixF b q j) by omega)
  have h8:mw t b q (ixF b q j) k*bA b q.row (q.col+ixF b q j)≤960*3:=Int.mul_le_mul (by omega) h6 (by omega) (by omega)
  exact an (by show _≤mw t b q (ixF b q j) k*bA b q.row (q.col+ixF b q j)∧mw t b q (ixF b q j) k*bA b q.row (q.col+ixF b q j)≤_;omega)
 ·have h5:=zC (t:=t) (b:=b) (q:=q) j
  show ((ng t b q j).length : Int)+1≤274877906944
  omega
 ·refine⟨by show 0≤j+1;omega,j5,?_⟩
  have h6:std.ltI (std.lenS (mc b q.row (q.col+ixF b q j) (std.byte q.word (ixF b q j)))) 2=false:=by assumption
  rw [j3] at h6
  show ng t b q j++[mw t b q (ixF b q j) k*bA b q.row (q.col+ixF b q j)]=ng t b q (j+1)
  rw [xj p0 j1,k6,if_pos (by have h7:=ao h6;simp only [gG] at h7;omega)]
 ·rw [zz (ao ‹_›)]
theorem Kv {t:TS} {b:Bd} {q:Pl} (h:er t) (hr:0≤q.row) (hq:q.word.length≤15) : ∀x∈c8 t b q,0≤x∧x≤12914016300:=by
 intro x hx
 rcases List.mem_cons.1 hx with rfl | hx
 ·have h1:=jv (lsS t b q) (LJ h)
  rw [Fb] at h1
  exact D9 hq h1.1 (by omega)
 ·obtain⟨i, -,rfl⟩:=List.mem_map.1 hx
  have h0:=C7 (t:=t) (b:=b) (q:=q) (i:=(i:Int)) hr (by omega) rfl
  rw [Int.toNat_natCast] at h0
  rw [←h0]
  have k2:=ui b q i
  have k3:=Bt (b:=b) (q:=q) h (i:=(i:Int)) (bq b q i).length
  obtain⟨h5,h6⟩:=KS (b:=b) (r:=q.row) (c:=q.col+(i:Int))
  have h7:=Int.mul_nonneg k3.1 (show 0≤bA b q.row (q.col+(i:Int)) by omega)
  have h8:mw t b q i (bq b q i).length * bA b q.row (q.col+(i:Int))≤960*3:=Int.mul_le_mul (by omega) h6 (by omega) (by omega)
  omega
theorem M0 (t:TS) (b:Bd) (q:Pl):(c8 t b q).length ≤q.word.length+1:=by
 have h1:=zC (t:=t) (b:=b) (q:=q) (frI b q).length
 rw [zz (Int.le_refl _)] at h1
 have h2:=kG b q
 omega
def cG (t:TS) (b:Bd) (q:Pl):Int:=lj t (af b q) (ab q)
theorem Oy {t:TS} {b:Bd} {q:Pl} (h:std.eqI (std.len (frI (af b q) (ab q))) 7=true):(c8 t (af b q) (ab q)).sum + 50=cG t b q:=by
 simp only [lu,nZ,HQ,beq_iff_eq] at h
 unfold cG lj
 rw [if_pos (by omega)]
theorem Mr {t:TS} {b:Bd} {q:Pl} (h:std.eqI (std.len (frI (af b q) (ab q))) 7=false):(c8 t (af b q) (ab q)).sum =cG t b q:=by
 simp only [lu,nZ,HQ,beq_eq_false_iff_ne,ne_eq] at h
 unfold cG lj
 rw [if_neg (by omega),Int.add_zero]
structure ScP (t:TS) (b:Bd) (q:Pl):Prop where
 ts:er t
 pl:PlP b q
def d4 (p:Pr):aa:=fsp (ac (aP aTs) (ac (aP aBd) (a1 (aA aPl)))) (fun (t,b,q)=>ScP t b q) (fun (t,b,q)=>.i .i64 (cG t b q))
theorem mC:FOk Tryz.prog 123 (d4 std):=by
 refine FOk.go (c:=cx std [(125,aJ std),(216,mn std),(217,aU std)] [] 0) (ae (.cons cB (.cons yG (.cons dj .nil))) .nil) mixed Tryz.func123 rfl rfl rfl (by kernel_rfl) ?_
 rintro ⟨t,b,q⟩ hp
 dsimp only at hp
 refine⟨rfl,?_⟩
 unfold aJ mn aU
 obtain⟨H,hH⟩ : ∃H:Hd (Int×Int),H=⟨fun (m,k)=>0≤k∧k≤(c8 t (af b q) (ab q)).length ∧m=((c8 t (af b q) (ab q)).take k.toNat).sum,fun (m,k)=>((c8 t (af b q) (ab q)).length - k).toNat,(· < ·)⟩:=⟨_,rfl⟩
 have hl:=hdl hH
 generalize hP:std=p,hB0:cG=B0,hB1:c8=B1,hB2:af=B2,hB3:ab=B3,hB4:frI=B4
 cbv
 repeat' first|refine fun (_:Unit)=>?_;cbv|refine Or.inr ⟨21,[],[.s 10 (.i .i64),.s 11 (.i .i64)],[],[],H,rfl,hl,?_,fun ((m,k):Int×Int) hk=>?_⟩<;>cbv|refine aI2 (fun h=>?_) (fun h=>?_)<;>cbv|refine aI2 ?_ ?_
 all_goals subst hP hB0 hB1 hB2 hB3 hB4 hH
 all_goals clear hl
 all_goals try dsimp only at hk
 all_goals try dsimp only
 all_goals have f1:=hp.pl.on.len
 all_goals have f2:=hp.pl.on.col
 all_goals have f3:=M0 t (af b q) (ab q)
 all_goals try exact fin
 ·exact⟨hp.ts,hp.pl.on⟩
 all_goals obtain⟨q0,q1,rfl⟩:=hk
 all_goals have h2:=Kv (b:=af b q) (q:=ab q) hp.ts (by omega) f1
 all_goals have h3:=mZ h2 (by decide) q0
 all_goals have f4:(c8 t (af b q) (ab q)).length ≤16:=Nat.le_trans f3 (by omega)
 all_goals have f5:k≤((c8 t (af b q) (ab q)).length : Int):=q1
 all_goals have f6:k≤16:=Int.le_trans f5 (Int.ofNat_le.2 f4)
 all_goals try (have h1:k<(c8 t (af b q) (ab q)).length :=ah ‹_›)
 all_goals try (have g1:k+1≤((c8 t (af b q) (ab q)).length : Int):=by omega)
 ·have h5:=mZ h2 (by decide) (k:=k+1) (by omega)
  rw [mI q0 h1] at h5
  exact an (by show _≤((c8 t (af b q) (ab q)).take k.toNat).sum + (c8 t (af b q) (ab q)).getD k.toNat 0∧((c8 t (af b q) (ab q)).take k.toNat).sum + (c8 t (af b q) (ab q)).getD k.toNat 0≤_;omega)
 ·refine⟨by show 0≤k+1;omega,g1,?_⟩
  exact (mI q0 h1).symm
 ·exact an (by show _≤((c8 t (af b q) (ab q)).take k.toNat).sum + 50∧((c8 t (af b q) (ab q)).take k.toNat).sum + 50≤_;omega)
 ·rw [bZ (ao ‹_›)]
  exact Oy ‹_›
 ·rw [bZ (ao ‹_›)]
  exact Mr ‹_›
end Ax
end Go.Proofs.YtjjonmhpgkahoaaGreatDoor
