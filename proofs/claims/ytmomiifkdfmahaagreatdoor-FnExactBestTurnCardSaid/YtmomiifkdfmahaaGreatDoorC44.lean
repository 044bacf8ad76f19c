/-
  Records, of the impl package: generators, bags shuffled, valid records; Records, of the impl package: beginnings.
  Conditions: as each part below says.
-/
import Derived.Test.YtmomiifkdfmahaaGreatDoorC43
set_option linter.unusedSimpArgs false
set_option linter.unusedVariables false
namespace Go.Proofs.YtmomiifkdfmahaaGreatDoor
namespace Ax
set_option maxRecDepth 100000
set_option maxHeartbeats 20000000
def mX:MArgs Int:=⟨fun H l=>match H,l with
 | [(0,.cells [.i .i64 x] t)],[.ptr 0 0]=>if t=2 then some x else none
 | _,_=>none,fun x=>[(0,.cells [.i .i64 x] 2)],fun _=>[.ptr 0 0],fun H l a h=>by
   split at h
   ·split at h
    ·rename_i ht
     cases h
     exact⟨by rw [ht],rfl⟩
    ·cases h
   ·cases h⟩
def mixV (y:Int):Int:=mixN y/65536
structure MixP (y:Int):Prop where
 lo:0≤y
 hi:y≤2147483647
def sp_i_mixer_1 (p:Pr):MSpec:=msp mX (fun y=>MixP y) (fun y=>.i .i64 (mixV y)) (fun y=>[(0,.cells [.i .i64 (mixN y)] 2)])
theorem ok_i_mixer_1:MOk Tryz.prog 129 (sp_i_mixer_1 std):=by
 refine MOk.go (c:=cx std [] [] 1) (cx_ok .nil .nil) mixed Tryz.func129 rfl rfl (by kernel_rfl) ?_
 rintro y hp
 refine⟨rfl,?_⟩
 generalize hP:std=p
 generalize hB0:mixN=B0
 generalize hB1:mixV=B1
 cbv
 repeat' first
  | (refine fun (_:Unit)=>?_;cbv)
  | (refine And.intro (fun h=>?_) (fun h=>?_)<;>cbv)
  | (refine And.intro ?_ ?_)
  | (refine Or.inl (fun (_:Unit)=>?_);cbv)
 all_goals subst hP hB0 hB1
 all_goals try exact fin
 all_goals have y0:=hp.lo
 all_goals have y1:=hp.hi
 ·exact in64 (by show _≤y*1103515245∧y*1103515245≤_;omega)
 ·exact in64 (by show _≤y*1103515245+12345∧y*1103515245+12345≤_;omega)
 ·exact sh_m y0
 ·show std.quo (std.rem (std.add (std.mul y 1103515245) 12345) 2147483648) 65536=mixV y
  rw [sh_m y0]
  exact quo_nn (mixN_bd y0).1
def sp_i_mixer (p:Pr):FSpec:=fsp (a1 aI) (fun x=>True) (fun x=>.fn 129 [.ptr 0 0]) (fun x=>[(0,.cells [.i .i64 x] 2)])
theorem ok_i_mixer:FOk Tryz.prog 77 (sp_i_mixer std):=by
 refine FOk.go (c:=cx std [] [] 0) (cx_ok .nil .nil) mixed Tryz.func77 rfl rfl rfl (by kernel_rfl) ?_
 rintro x hp
 refine⟨rfl,?_⟩
 generalize hP:std=p
 cbv
 repeat' first
  | (refine fun (_:Unit)=>?_;cbv)
  | (refine And.intro (fun h=>?_) (fun h=>?_)<;>cbv)
  | (refine And.intro ?_ ?_)
  | (refine Or.inl (fun (_:Unit)=>?_);cbv)
 all_goals subst hP
 all_goals try exact fin
def sbC (t:TS) (x:Int):Int:=if tsB t=true then (if inR x 0 2147483647=true then 0 else 2) else 1
def sbS (t:TS) (x:Int):List UInt8:=if sbC t x=0 then shufL (allT t) x else []
section
variable {t:TS} {x:Int}
theorem sb_1 (h:tsB t=false):sbC t x=1∧sbS t x=[]:=by
 have e:sbC t x=1:=if_neg (by rw [h];decide)
 exact⟨e,if_neg (by rw [e];decide)⟩
theorem sb_2 (h:tsB t=true) (h2:inR x 0 2147483647=false):sbC t x=2∧sbS t x=[]:=by
 have e:sbC t x=2:=(if_pos h).trans (if_neg (by rw [h2];decide))
 exact⟨e,if_neg (by rw [e];decide)⟩
theorem sb_0 (h:tsB t=true) (h2:inR x 0 2147483647=true):sbC t x=0∧sbS t x=shufL (allT t) x:=by
 have e:sbC t x=0:=(if_pos h).trans (if_pos h2)
 exact⟨e,if_pos e⟩
theorem sb_tl (h:tsB t=true):TlP t:=⟨(tsB_all h).1,(tsB_all h).2.1,(tsB_all h).2.2⟩
theorem sb_len (h:tsB t=true):(allT t).length ≤1000:=allT_len (tsB_all h).1
theorem mx_k {y i:Int} (h:0≤y) (hi:0<i):std.rem (mixV y) (std.add i 1)=(mixN y/65536)%(i+1):=rem_nn (by have:=(mixN_bd h).1;unfold mixV;omega)
end
structure ShJ (t:TS) (x i:Int) (L:List Int) (y:Int):Prop where
 m:MixP y
 lo : -1≤i
 hi:i<1000000
 e : ∃X,L=toBl X∧X.length=(allT t).length ∧(0≤i→i<X.length)∧shufL (allT t) x=shufG i.toNat y X
section
variable {t:TS} {x i y:Int} {L:List Int}
theorem le_t {a b:Int} (h:std.leI a b=true):a≤b:=by simpa using h
theorem le_f {a b:Int} (h:std.leI a b=false):b<a:=by simpa using h
theorem ShJ.ix (h:ShJ t x i L y) (hi:0<i):std.inL i (std.len L):=by
 obtain⟨X,rfl,hX,h1,e⟩:=h.e
 refine⟨by omega,?_⟩
 show i<((toBl X).length : Int)
 rw [toB_len];exact h1 (by omega)
theorem ShJ.k (h:ShJ t x i L y) (hi:0<i):std.inL (std.rem (mixV y) (std.add i 1)) (std.len L):=by
 have h2:=(h.ix hi).2
 rw [mx_k h.m.lo hi]
 have h1:=sh_b (y:=y) hi
 generalize (mixN y/65536)%(i+1)=z at h1 ⊢
 exact⟨h1.1,by omega⟩
theorem ShJ.s (h:ShJ t x i L y) (hi:0<i):ShJ t x (i-1) (std.set (std.set L i (std.get 0 L (std.rem (mixV y) (std.add i 1)))) (std.rem (mixV y) (std.add i 1)) (std.get 0 L i)) (mixN y):=by
 have hm:=mixN_bd h.m.lo
 have i1:=h.hi
 rw [mx_k h.m.lo hi]
 obtain⟨X,rfl,hX,h1,e⟩:=h.e
 refine⟨⟨hm.1,by omega⟩,by omega,by omega,swp X i.toNat ((mixN y/65536)%(i+1)).toNat,?_,by rw [swp_len];exact hX,fun _=>by rw [swp_len];exact Int.lt_trans (Int.sub_lt_self i (by decide)) (h1 (by omega)),by rw [e,shuf_step hi]⟩
 show ((toBl X).set i.toNat ((toBl X).getD _ 0)).set _ ((toBl X).getD _ 0)=_
 rw [toB_get,toB_get,toB_set,toB_set];rfl
theorem ShJ.z (h:ShJ t x i L y) (hi:i<1):std.toS L=shufL (allT t) x:=by
 obtain⟨X,rfl,hX,h1,e⟩:=h.e
 rw [e,show i.toNat=0 by omega]
 exact toS_toB X
end
def sp_i_ShuffleBag (p:Pr):FSpec:=fsp (ac (aA aTs) (a1 aI)) (fun (t,x)=>TsL t) (fun (t,x)=>.tup [.s (sbS t x),.i .i64 (sbC t x)])
theorem ok_i_ShuffleBag:FOk Tryz.prog 47 (sp_i_ShuffleBag std):=by
 refine FOk.go (c:=cx std [(70,sp_i_ValidTiles std),(74,sp_i_within std),(76,sp_i_allTiles std),(77,sp_i_mixer std)] [(129,sp_i_mixer_1 std)] 0) (cx_ok (.cons ok_i_ValidTiles (.cons ok_i_within (.cons ok_i_allTiles (.cons ok_i_mixer .nil)))) (.cons ok_i_mixer_1 .nil)) mixed Tryz.func47 rfl rfl rfl (by kernel_rfl) ?_
 rintro ⟨t,x⟩ hp
 dsimp only at hp
 refine⟨rfl,?_⟩
 unfold sp_i_ValidTiles sp_i_within sp_i_allTiles sp_i_mixer sp_i_mixer_1
 obtain⟨H,hH⟩ : ∃H:Hd (Int×List Int×Int),H=⟨fun (i,L,y)=>ShJ t x i L y,fun (i,L,y)=>(i+1).toNat,(· < ·)⟩:=⟨_,rfl⟩
 have hl : ∀m n,H.lt m n→m<n:=by subst hH;exact fun _ _ h=>h
 generalize hP:std=p
 generalize hB0:tsB=B0
 generalize hB1:allT=B1
 generalize hB2:shufL=B2
 generalize hB3:inR=B3
 generalize hB4:sbS=B4
 generalize hB5:sbC=B5
 generalize hB6:mixN=B6
 generalize hB7:mixV=B7
 cbv
 repeat' first
  | (refine fun (_:Unit)=>?_;cbv)
  | (refine Or.inr ⟨24,[],[.s 8 (.i .i64),.o 1 [.i .u8],.c 2 0 (.i .i64)],[],[],H,rfl,hl,?_,fun ((i,L,y):Int×List Int×Int) hk=>?_⟩<;>cbv)
  | (refine And.intro (fun h=>?_) (fun h=>?_)<;>cbv)
  | (refine And.intro ?_ ?_)
 all_goals subst hP hB0 hB1 hB2 hB3 hB4 hB5 hB6 hB7 hH
 all_goals clear hl
 all_goals try dsimp only at hk
 all_goals try dsimp only
 all_goals try exact fin
 all_goals (try simp only [eta_ts] at *)
 all_goals try (have h1:tsB t=true:=by assumption)
 all_goals try (have h2:inR x 0 2147483647=true:=by assumption)
 ·exact (sb_1 h).2.symm
 ·exact (sb_1 h).1.symm
 ·exact (sb_2 h1 h).2.symm
 ·exact (sb_2 h1 h).1.symm
 ·exact sb_tl h1
 all_goals have hn:=sb_len h1
 ·exact in64 (by show _≤((toBl (allT t)).length : Int)-1∧((toBl (allT t)).length : Int)-1≤_;rw [toB_len];omega)
 ·have hx:=in_bd h2
  have e:std.sub (std.len (std.toB (allT t))) 1=((allT t).length : Int)-1:=by show ((toBl (allT t)).length : Int)-1=_;rw [toB_len]
  refine⟨⟨hx.1,hx.2⟩,by show -1≤std.sub (std.len (std.toB (allT t))) 1;rw [e];omega,by show std.sub (std.len (std.toB (allT t))) 1<1000000;rw [e];omega,allT t,rfl,rfl,fun _=>by show std.sub (std.len (std.toB (allT t))) 1<((allT t).length : Int);rw [e];omega,?_⟩
  show shufL (allT t) x=shufG (std.sub (std.len (std.toB (allT t))) 1).toNat x (allT t)
  rw [e]
  unfold shufL
  congr 1
  omega
 all_goals try (have hlt:0<i:=le_t (by assumption))
 all_goals have i0:=hk.lo
 all_goals have i1:=hk.hi
 ·exact hk.m
 ·exact in64 (by show _≤i+1∧i+1≤_;omega)
 ·exact hk.k hlt
 ·exact hk.k hlt
 ·exact hk.ix hlt
 ·exact hk.ix hlt
 ·exact hk.ix hlt
 ·exact hk.ix hlt
 ·have hq:=hk.k hlt
  exact⟨hq.1,by show _<((L.set i.toNat _).length : Int);rw [List.length_set];exact hq.2⟩
 ·have hq:=hk.k hlt
  exact⟨hq.1,by show _<((L.set i.toNat _).length : Int);rw [List.length_set];exact hq.2⟩
 ·exact in64 (by show _≤i-1∧i-1≤_;omega)
 ·exact hk.s hlt
 ·rw [(sb_0 h1 h2).2]
  exact hk.z (le_f (by assumption))
 ·exact (sb_0 h1 h2).1.symm
structure RcQ (r:Rcd):Prop where
 n:(r.acts.length:Int)≤1048576
 a : ∀k:Int,AcQ (acN r k)
def sp_i_ValidRecord (p:Pr):FSpec:=fsp (a1 (aA aRcd)) (fun r=>RcQ r) (fun r=>.b (rcB r))
theorem ok_i_ValidRecord:FOk Tryz.prog 46 (sp_i_ValidRecord std):=by
 refine FOk.go (c:=cx std [(74,sp_i_within std),(75,sp_i_ValidAction std)] [] 0) (cx_ok (.cons ok_i_within (.cons ok_i_ValidAction .nil)) .nil) mixed Tryz.func46 rfl rfl rfl (by kernel_rfl) ?_
 rintro r hp
 refine⟨rfl,?_⟩
 unfold sp_i_within sp_i_ValidAction
 obtain⟨H,hH⟩ : ∃H:Hd (Int),H=⟨fun k=>0≤k∧k≤r.acts.length∧rcB r=rcA (r.acts.drop k.toNat),fun k=>(r.acts.length-k).toNat,(· < ·)⟩:=⟨_,rfl⟩
 have hl : ∀m n,H.lt m n→m<n:=by subst hH;exact fun _ _ h=>h
 generalize hP:std=p
 generalize hB0:rcB=B0
 generalize hB1:actB=B1
 generalize hB2:inR=B2
 cbv
 repeat' first
  | (refine fun (_:Unit)=>?_;cbv)
  | (refine Or.inr ⟨19,[],[.s 18 (.i .i64)],[],[],H,rfl,hl,?_,fun (k:Int) hk=>?_⟩<;>cbv)
  | (refine And.intro (fun h=>?_) (fun h=>?_)<;>cbv)
  | (refine And.intro ?_ ?_)
 all_goals subst hP hB0 hB1 hB2 hH
 all_goals clear hl
 all_goals try dsimp only at hk
 all_goals try dsimp only
 all_goals try exact fin
 all_goals have hn:=hp.n
 all_goals try (have hlt:k<(r.acts.length:Int):=lt_of (by assumption))
 all_goals try (have hge:(r.acts.length:Int)≤k:=ge_of (by assumption))
 all_goals try (obtain⟨q0,q1,q2⟩:=hk)
 ·have hlen:(200:Int)<r.acts.length:=lt_of (by assumption)
  unfold rcB rcT
  rw [show decide (r.acts.length≤200)=false from decide_eq_false (by omega),Bool.and_false,Bool.and_false]
 ·have hlen:(r.acts.length:Int)≤200:=ge_of (by assumption)
  have hs:inR r.seed 0 2147483647=true:=by assumption
  refine⟨Int.le_refl 0,Int.natCast_nonneg _,?_⟩
  show rcB r=rcA r.acts
  unfold rcB rcT
  rw [hs,show decide (r.acts.length≤200)=true from decide_eq_true (by omega),Bool.and_true,Bool.and_true]
 ·exact hp.a k
 ·rw [q2,rcA_step q0 hlt,show actB (acN r k)=false from by assumption];rfl
 ·refine⟨by show 0≤k+1;omega,by show k+1≤(r.acts.length:Int);omega,?_⟩
  rw [q2,rcA_step q0 hlt,show actB (acN r k)=true from by assumption,Bool.true_and];rfl
 ·rw [q2,rcA_end hge]
 ·unfold rcB rcT
  rw [show inR r.seed 0 2147483647=false from h,Bool.false_and,Bool.and_false]
end Ax
end Go.Proofs.YtmomiifkdfmahaaGreatDoor
namespace Go.Proofs.YtmomiifkdfmahaaGreatDoor
namespace Ax
set_option maxRecDepth 100000
set_option maxHeartbeats 20000000
structure SiL (u:Su) (b:List UInt8):Prop where
 su:SuQ u
 cp:SuC u
 b:b.length≤274877906944
structure SiY (u:Su) (b:List UInt8):Prop where
 q:SiL u b
 c:bgnC u b=0
structure SiN (u:Su) (b:List UInt8):Prop where
 q:SiL u b
 c:bgnC u b≠0
def pil (s:List UInt8):List UInt8:=pileL (countsL s)
section
variable {u:Su} {b:List UInt8}
theorem pil_eq (h:bagB b=true):pil b=isort b:=sort_pile (bagB_tiles h)
theorem all_take {p:UInt8→Bool} {l:List UInt8} (n:Nat) (h:l.all p=true):(l.take n).all p=true:=List.all_eq_true.2 fun x hx=>List.all_eq_true.1 h x (List.mem_of_mem_take hx)
theorem all_drop {p:UInt8→Bool} {l:List UInt8} (n:Nat) (h:l.all p=true):(l.drop n).all p=true:=List.all_eq_true.2 fun x hx=>List.all_eq_true.1 h x (List.mem_of_mem_drop hx)
theorem st_p (h:bagB b=true):StP b:=⟨bagB_tiles h,by have:=bag_len h;omega⟩
theorem st_t (n:Nat) (h:bagB b=true):StP (b.take n):=⟨all_take n (bagB_tiles h),by have:=bag_len h;rw [List.length_take];omega⟩
theorem st_d (n m:Nat) (h:bagB b=true):StP ((b.take n).drop m):=⟨all_drop m (all_take n (bagB_tiles h)),by have:=bag_len h;rw [List.length_drop,List.length_take];omega⟩
theorem rks_p (h:bagB b=true) : [pil (b.take 7),pil ((b.take 14).drop 7)]=sgRks b:=by
 unfold sgRks pil
 rw [sort_pile (all_take 7 (bagB_tiles h)),sort_pile (all_drop 7 (all_take 14 (bagB_tiles h)))]
theorem si3 (h:bgnC u b=0) (h2:std.eqS (pil b) (allT u.ts)=false):False:=sg3 h (by rw [←pil_eq (sg_f h).bg];exact h2)
theorem si5 (h:bgnC u b≠0) (h1:suB u=true) (h2:bagB b=true) (h3:std.eqS (pil b) (allT u.ts)=true) (h4:std.ltI (std.lenS b) 14=false):False:=sg5 h h1 h2 (by rw [←pil_eq h2];exact h3) h4
theorem su_ts (h:suB u=true):tsB u.ts=true:=by
 unfold suB at h
 rw [Bool.and_eq_true] at h
 exact h.1
end
def sp_i_StartGame_y (p:Pr):FSpec:=fsp (ac (aA aSu) (a1 aS)) (fun (u,b)=>SiY u b) (fun (u,b)=>.tup [.agg (gmK ⟨u.ts,u.lex,u.bd,u.secs,u.rule,⟨u.bd.size,u.bd.prem,u.bd.cells⟩,sgBag b,[],[],[],0,0,⟨0,0,⟨0,0,false,[]⟩,[],[],0,0⟩,false⟩ (.osl 0) (.osl 1) (.osl 2) (.osl 3) (.osl 4) (.osl 5)),.i .i64 0]) (fun (u,b)=>[(0,.own [.i .i64] u.ts.values 2),(1,.own [.i .i64] u.ts.counts 2),(2,.own [.s] u.lex 9),(3,.own [.s] (sgRks b) 9),(4,.own [.i .i64] [0,0] 2),(5,.own [.i .i64] [u.secs,u.secs] 2)])
theorem ok_i_StartGame_y:FOk Tryz.prog 48 (sp_i_StartGame_y std):=by
 refine FOk.go (c:=cx std [(45,sp_i_ValidSetup std),(78,sp_i_ValidBag std),(79,sp_i_sorted std),(76,sp_i_allTiles std),(80,sp_i_copySetup std)] [] 0) (cx_ok (.cons ok_i_ValidSetup (.cons ok_i_ValidBag (.cons ok_i_sorted (.cons ok_i_allTiles (.cons ok_i_copySetup .nil))))) .nil) mixed Tryz.func48 rfl rfl rfl (by kernel_rfl) ?_
 rintro ⟨u,b⟩ hp
 dsimp only at hp
 refine⟨rfl,?_⟩
 unfold sp_i_ValidSetup sp_i_ValidBag sp_i_sorted sp_i_allTiles sp_i_copySetup
 generalize hP:std=p
 generalize hB0:suB=B0
 generalize hB1:bagB=B1
 generalize hB2:pileL=B2
 generalize hB3:countsL=B3
 generalize hB4:allT=B4
 generalize hB5:sgBag=B5
 generalize hB6:sgRks=B6
 cbv
 repeat' first
  | (refine fun (_:Unit)=>?_;cbv)
  | (refine And.intro (fun h=>?_) (fun h=>?_)<;>cbv)
  | (refine And.intro ?_ ?_)
  | (refine Or.inl (fun (_:Unit)=>?_);cbv)
 all_goals subst hP hB0 hB1 hB2 hB3 hB4 hB5 hB6
 all_goals try (exfalso;exact sg1 hp.c (by assumption))
 all_goals try (exfalso;exact sg2 hp.c (by assumption))
 all_goals try (exfalso;exact si3 hp.c (by assumption))
 all_goals try (exfalso;exact sg4 hp.c (by assumption))
 all_goals try exact fin
 all_goals have hF:=sg_f hp.c
 all_goals have h1:=hF.lo
 all_goals have h2:=hF.hi
 all_goals first
  | exact hp.q.su
  | exact hp.q.cp
  | exact ltM_of hp.q.b
  | exact st_p hF.bg
  | exact st_t 7 hF.bg
  | exact st_d 14 7 hF.bg
  | exact sb_tl (su_ts hF.su)
  | exact congrArg (fun z=>Ob.own [.s] z 9) (rks_p hF.bg)
  | skip
def sp_i_StartGame_n (p:Pr):FSpec:=fsp (ac (aA aSu) (a1 aS)) (fun (u,b)=>SiN u b) (fun (u,b)=>.tup [.agg (gmK gm0 .esl .esl .esl .esl .esl .esl),.i .i64 (bgnC u b)])
theorem ok_i_StartGame_n:FOk Tryz.prog 48 (sp_i_StartGame_n std):=by
 refine FOk.go (c:=cx std [(45,sp_i_ValidSetup std),(78,sp_i_ValidBag std),(79,sp_i_sorted std),(76,sp_i_allTiles std),(80,sp_i_copySetup std)] [] 0) (cx_ok (.cons ok_i_ValidSetup (.cons ok_i_ValidBag (.cons ok_i_sorted (.cons ok_i_allTiles (.cons ok_i_copySetup .nil))))) .nil) mixed Tryz.func48 rfl rfl rfl (by kernel_rfl) ?_
 rintro ⟨u,b⟩ hp
 dsimp only at hp
 refine⟨rfl,?_⟩
 unfold sp_i_ValidSetup sp_i_ValidBag sp_i_sorted sp_i_allTiles sp_i_copySetup
 generalize hP:std=p
 generalize hB0:suB=B0
 generalize hB1:bagB=B1
 generalize hB2:pileL=B2
 generalize hB3:countsL=B3
 generalize hB4:allT=B4
 generalize hB5:bgnC=B5
 cbv
 repeat' first
  | (refine fun (_:Unit)=>?_;cbv)
  | (refine And.intro (fun h=>?_) (fun h=>?_)<;>cbv)
  | (refine And.intro ?_ ?_)
  | (refine Or.inl (fun (_:Unit)=>?_);cbv)
 all_goals subst hP hB0 hB1 hB2 hB3 hB4 hB5
 all_goals try (exfalso;exact si5 hp.c (by assumption) (by assumption) (by assumption) (by assumption))
 all_goals try exact fin
 all_goals first
  | exact hp.q.su
  | exact hp.q.cp
  | exact ltM_of hp.q.b
  | exact st_p (by assumption)
  | exact sb_tl (su_ts (by assumption))
  | skip
 ·have h1:suB u=true:=by assumption
  have h2:bagB b=false:=by assumption
  rw [bgnC_std,h1,h2];rfl
 ·have h1:suB u=true:=by assumption
  have h2:bagB b=true:=by assumption
  have h3:std.eqS (pil b) (allT u.ts)=false:=by assumption
  rw [pil_eq h2] at h3
  rw [bgnC_std,h1,h2,h3];rfl
 ·have h1:suB u=true:=by assumption
  have h2:bagB b=true:=by assumption
  have h3:std.eqS (pil b) (allT u.ts)=true:=by assumption
  have h4:std.ltI (std.lenS b) 14=true:=by assumption
  rw [pil_eq h2] at h3
  rw [bgnC_std,h1,h2,h3,h4];rfl
 ·have h1:suB u=false:=by assumption
  rw [bgnC_std,h1];rfl
def sp_i_StartGame (p:Pr):FSpec:=fsp (ac (aA aSu) (a1 aS)) (fun (u,b)=>SiL u b) (fun (u,b)=>.tup [.agg (gmO6 (bgnR u b)),.i .i64 (bgnC u b)]) (fun (u,b)=>gmH6 (bgnR u b))
def spSiN (p:Pr):FSpec:=fsp (ac (aA aSu) (a1 aS)) (fun (u,b)=>SiN u b) (fun (u,b)=>.tup [.agg (gmO6 gm0),.i .i64 (bgnC u b)]) (fun _=>gmH6 gm0)
theorem okSiN:FOk Tryz.prog 48 (spSiN std):=FOk.own ok_i_StartGame_n rfl fun ⟨u,b⟩ w e v h hr=>
 tup_fol (.cons (agg_fol (esl_fol h)) (.cons (fun _ h=>h) .nil)) v hr
theorem ok_i_StartGame:FOk Tryz.prog 48 (sp_i_StartGame std):=FOk.casesE ok_i_StartGame_y okSiN fun ⟨u,b⟩ hp=>by
 by_cases hc:bgnC u b=0
 ·have e:bgnG u b=bgnR u b:=(if_pos hc).symm
  refine .inl ⟨⟨hp,hc⟩,?_,?_⟩
  ·show _=PV.tup [.agg (gmO6 (bgnR u b)),.i .i64 (bgnC u b)]
   rw [hc,←e];rfl
  ·show _=gmH6 (bgnR u b)
   rw [←e];rfl
 ·refine .inr ⟨⟨hp,hc⟩,?_,?_⟩
  ·show _=PV.tup [.agg (gmO6 (bgnR u b)),.i .i64 (bgnC u b)]
   unfold bgnR;rw [if_neg hc]
  ·show _=gmH6 (bgnR u b)
   unfold bgnR;rw [if_neg hc]
def sp_i_StartGameF (p:Pr):FSpec:=fsp (ac (aA aSu) (a1 aS)) (fun (u,b)=>SiL u b) (fun (u,b)=>.tup [.agg (gmR (bgnR u b)),.i .i64 (bgnC u b)])
theorem ok_i_StartGameF:FOk Tryz.prog 48 (sp_i_StartGameF std):=FOk.frz ok_i_StartGame fun ⟨u,b⟩=>by
 refine⟨?_,?_⟩
 ·simp [deep,deeps,AH.get,gmH6,gmO6,gmK,gmR]
 ·simp [PV.idIn,idInL,gmK,gmR]
def sp_i_DoActionF (p:Pr):FSpec:=fsp (ac (aA aGm) (a1 (aA aAc))) (fun (g,a)=>DiP g a) (fun (g,a)=>.tup [.agg (gmR (daR g a)),.i .i64 (daP g a),.i .i64 (daC g a)])
theorem ok_i_DoActionF:FOk Tryz.prog 49 (sp_i_DoActionF std):=FOk.frz ok_i_DoAction fun ⟨g,a⟩=>by
 refine⟨?_,?_⟩
 ·simp [deep,deeps,AH.get,gmH6,gmO6,gmK,gmR]
 ·simp [PV.idIn,idInL,gmK,gmR]
end Ax
end Go.Proofs.YtmomiifkdfmahaaGreatDoor
