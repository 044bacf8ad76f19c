/-
  What an action leads to, of the impl package; What an action leads to is no longer than what it began with; Records, of the spec package: bags shuffled, beginnings; Records, of the spec package: which are valid, beginnings, runs; The plain walker: what a function has made may be told as frozen where its first part ends; Records, of the spec package: what they are worth, the best turn; Records, of the impl package: generators, bags shuffled, valid records; Records, of the impl package: beginnings.
  Conditions: none; the tables of types and of functions are as the program has them.
-/
import Derived.Test.YtghmphmbpdiflaaGreatDoorE42
import Derived.Test.YtghmphmbpdiflaaGreatDoorE36
import Derived.Test.YtghmphmbpdiflaaGreatDoorE20
import Derived.Test.YtghmphmbpdiflaaGreatDoorE38
set_option linter.unusedSimpArgs false
set_option linter.unusedVariables false
namespace Go.Proofs.YtghmphmbpdiflaaGreatDoor
namespace Ax
set_option maxRecDepth 100000
set_option maxHeartbeats 2000000
def sp_i_DoAction (p:Pr):FSpec:=fsp (ac (aA aGm) (a1 (aA aAc))) (fun (g,a)=>DiP g a) (fun (g,a)=>.tup [.agg (gmO6 (daR g a)),.i .i64 (daP g a),.i .i64 (daC g a)]) (fun (g,a)=>gmH6 (daR g a))
def spDiN (p:Pr):FSpec:=fsp (ac (aA aGm) (a1 (aA aAc))) (fun (g,a)=>DiN g a) (fun (g,a)=>.tup [.agg (gmO6 gm0),.i .i64 0,.i .i64 1]) (fun _=>gmH6 gm0)
theorem okDiN:FOk Tryz.prog 231 (spDiN std):=FOk.own ok_i_DoAction_n rfl fun ⟨g,a⟩ w e u h hr=>
 tup_fol (.cons (agg_fol (esl_fol h)) (.cons (fun _ h=>h) (.cons (fun _ h=>h) .nil))) u hr
theorem ok_i_DoAction:FOk Tryz.prog 231 (sp_i_DoAction std):=FOk.casesE ok_i_DoAction_y okDiN fun ⟨g,a⟩ hp=>by
 by_cases hc:(gameB g&&actB a)=true
 ·have h:=hc
  rw [Bool.and_eq_true] at h
  refine .inl ⟨⟨hp,h.1,h.2⟩,?_,?_⟩
  ·show _=PV.tup [.agg (gmO6 (daR g a)),.i .i64 (daP g a),.i .i64 (daC g a)]
   unfold daR daP daC
   rw [if_pos hc,if_pos hc,if_pos hc]
  ·show _=gmH6 (daR g a)
   unfold daR
   rw [if_pos hc]
 ·refine .inr ⟨⟨hp,by simpa using hc⟩,?_,?_⟩
  ·show _=PV.tup [.agg (gmO6 (daR g a)),.i .i64 (daP g a),.i .i64 (daC g a)]
   unfold daR daP daC
   rw [if_neg hc,if_neg hc,if_neg hc]
  ·show _=gmH6 (daR g a)
   unfold daR
   rw [if_neg hc]
end Ax
namespace Ax
set_option maxRecDepth 100000
set_option maxHeartbeats 2000000
theorem z0:((([]:List UInt8).length : Nat):Int)≤1048576:=by decide
section
variable {g:Gm} {n:Int}
theorem rks_b {i:Nat} {x:List UInt8} (h:WsB 1048576 g.racks) (hx:(x.length:Int)≤1048576):WsB 1048576 (g.racks.set i x):=
 ⟨by rw [List.length_set];exact h.l,fun k=>setg_bd (P:=fun y:List UInt8=>(y.length:Int)≤1048576) (L:=g.racks) (i:=i) (k:=k.toNat) (d:=[]) hx (h.w k)⟩
theorem ckL_b (h:(g.clocks.length:Int)≤1048576):((ckL g n).length : Int)≤1048576:=by unfold ckL;rw [List.length_set];exact h
theorem setSc_b (g:Gm):((setSc g).length : Int)≤1048576:=by show (2:Int)≤_;decide
theorem turnG_b {q:Pl} (h:GmB 1048576 g) (hc:turnC g q n=0) (hw:(q.word.length:Int)≤1048576):GmB 1048576 (turnG g q n):=by
 obtain⟨ha,hG,hC⟩:=sturn_of hc
 have h7:=rack_len hC.rk
 have hb:=h.bag
 have e:GmB 1048576 (turn1 g q n):=by
  refine⟨h.ts,h.lx,h.b0,⟨h.bd.p,?_⟩,?_,rks_b h.rk ?_,?_,ckL_b h.ck,hw,h.bd.c,?_⟩
  ·show ((madeTo g.bd q q.word.length).length : Int)≤_
   rw [made_len];exact h.bd.c
  ·show ((g.bag.drop _).length : Int)≤_
   rw [List.length_drop];omega
  ·rw [isort_length,List.length_append,List.length_take]
   unfold drawN
   omega
  ·show ((g.scores.set _ _).length : Int)≤_
   rw [List.length_set];exact h.sc
  ·show ((g.bag.take _).length : Int)≤_
   rw [List.length_take];omega
 unfold turnG
 split
 ·exact⟨e.ts,e.lx,e.b0,e.bd,e.bag,e.rk,setSc_b _,e.ck,e.wd,e.bf,e.dr⟩
 ·exact e
theorem zeroG_b {k:Int} (h:GmB 1048576 g):GmB 1048576 (zeroG g k n):=by
 unfold zeroG
 split
 ·exact⟨h.ts,h.lx,h.b0,h.bd,h.bag,h.rk,setSc_b _,ckL_b h.ck,z0,z0,z0⟩
 ·exact⟨h.ts,h.lx,h.b0,h.bd,h.bag,h.rk,h.sc,ckL_b h.ck,z0,z0,z0⟩
theorem xtG_b {t:List UInt8} (h:GmB 1048576 g) (hc:exC g.bag (g.rk g.player) t=0):GmB 1048576 (xtG g t):=by
 have h1:=exB_len hc
 have h2:=exR_len hc
 have hb:=h.bag
 exact⟨h.ts,h.lx,h.b0,h.bd,by show ((exB g.bag (g.rk g.player) t).length : Int)≤_;omega,rks_b h.rk (by omega),h.sc,h.ck,h.wd,h.bf,h.dr⟩
theorem chG_b (h:GmB 1048576 g) (hc:chC g n=0):GmB 1048576 (chG g n):=by
 have hF:=chc_of hc
 have hk:=pkf hF.ok
 have h1:=bag_len hk.dr
 have h2:=bag_len hF.sy.ok.bag
 have h3:=ch_rack hF
 unfold chG
 split
 ·refine⟨h.ts,h.lx,h.b0,⟨h.bd.p,h.bf⟩,?_,rks_b (g:=clockG g n) h.rk (by show ((wRack g).length : Int)≤_;omega),?_,ckL_b h.ck,z0,z0,z0⟩
  ·show ((g.last.drawn++g.bag).length : Int)≤_
   rw [List.length_append];omega
  ·show ((wSs (clockG g n)).length : Int)≤_
   unfold wSs
   split
   ·exact setSc_b _
   ·show ((g.scores.set _ _).length : Int)≤_
    rw [List.length_set];exact h.sc
 ·have hs:((rSc (clockG g n) (vPts g)).length : Int)≤1048576:=by
   show ((g.scores.set _ _).length : Int)≤_
   rw [List.length_set];exact h.sc
  have e:GmB 1048576 (rf1 (clockG g n) (vPts g)):=by
   unfold rf1
   refine⟨h.ts,h.lx,h.b0,h.bd,h.bag,h.rk,hs,ckL_b h.ck,?_,?_,?_⟩<;>(dsimp only;split<;>exact z0)
  unfold rfG
  split
  ·exact⟨e.ts,e.lx,e.b0,e.bd,e.bag,e.rk,setSc_b _,e.ck,e.wd,e.bf,e.dr⟩
  ·exact e
theorem doG_b {a:Ac} (h:GmB 1048576 g) (hc:doC g a=0) (hw:(a.play.word.length:Int)≤1048576):GmB 1048576 (doG g a):=by
 unfold doC at hc
 unfold doG
 by_cases h1:a.kind=1
 ·rw [if_pos h1] at hc ⊢
  unfold turnR
  rw [if_pos hc]
  exact turnG_b h hc hw
 ·rw [if_neg h1] at hc ⊢
  by_cases h2:a.kind=2
  ·rw [if_pos h2] at hc ⊢
   unfold xtR
   rw [if_pos hc]
   exact zeroG_b (xtG_b h (xt_act hc).2.2)
  ·rw [if_neg h2] at hc ⊢
   by_cases h3:a.kind=3
   ·rw [if_pos h3] at hc ⊢
    unfold passR
    rw [if_pos hc]
    exact zeroG_b h
   ·rw [if_neg h3] at hc ⊢
    unfold chR
    rw [if_pos hc]
    exact chG_b h hc
end
end Ax
namespace Ax
set_option maxRecDepth 100000
set_option maxHeartbeats 20000000
structure ShP (s:List UInt8) (x:Int):Prop where
 s:s.length≤1000000
 x:0≤x∧x≤2147483647
theorem sh_m {y:Int} (h:0≤y):std.rem (std.add (std.mul y 1103515245) 12345) 2147483648=mixN y:=rem_nn (by show 0≤y*1103515245+12345;omega)
theorem sh_k {y i:Int} (h:0≤y):std.rem (std.quo (mixN y) 65536) (std.add i 1)=(mixN y/65536)%(i+1):=by
 have:=(mixN_bd h).1
 rw [quo_nn this]
 exact rem_nn (by omega)
theorem sh_b {y i:Int} (hi:0<i):0≤(mixN y/65536)%(i+1)∧(mixN y/65536)%(i+1)<i+1:=⟨Int.emod_nonneg _ (by omega),Int.emod_lt_of_pos _ (by omega)⟩
theorem sh_in {y i n:Int} (y0:0≤y) (hi:0<i) (hn:i<n):std.inL (std.rem (std.quo (std.rem (std.add (std.mul y 1103515245) 12345) 2147483648) 65536) (std.add i 1)) n:=by
 rw [sh_m y0,sh_k y0]
 have h:=sh_b (y:=y) hi
 generalize (mixN y/65536)%(i+1)=z at h ⊢
 exact⟨h.1,by omega⟩
def sp_s_l17Shuffle (p:Pr):FSpec:=fsp (ac aS (a1 aI)) (fun (s,x)=>ShP s x) (fun (s,x)=>.s (shufL s x))
theorem ok_s_l17Shuffle:FOk Tryz.prog 128 (sp_s_l17Shuffle std):=by
 refine FOk.go (c:=cx std [] [] 0) (cx_ok .nil .nil) mixed Tryz.func128 rfl rfl rfl (by kernel_rfl) ?_
 rintro ⟨s,x⟩ hp
 dsimp only at hp
 refine⟨rfl,?_⟩
 obtain⟨H,hH⟩ : ∃H:Hd (Int×Int×List Int),H=⟨fun (y,i,L)=>0≤y∧y≤2147483647∧ -1≤i∧i<1000000∧∃X,L=toBl X∧(X.length:Int)=s.length∧(0≤i→i<X.length)∧shufL s x=shufG i.toNat y X,fun (y,i,L)=>(i+1).toNat,(· < ·)⟩:=⟨_,rfl⟩
 have hl : ∀m n,H.lt m n→m<n:=by subst hH;exact fun _ _ h=>h
 generalize hP:std=p,hB0:shufL=B0
 cbv
 repeat' first
  | (refine fun (_:Unit)=>?_;cbv)
  | (refine Or.inr ⟨16,[],[.s 6 (.i .i64),.s 7 (.i .i64),.o 0 [.i .u8]],[],[],H,rfl,hl,?_,fun ((y,i,L):Int×Int×List Int) hk=>?_⟩<;>cbv)
  | (refine aI2 (fun h=>?_) (fun h=>?_)<;>cbv)
  | (refine aI2 ?_ ?_)
 all_goals subst hP hB0 hH
 all_goals clear hl
 all_goals try dsimp only at hk
 all_goals try dsimp only
 all_goals try exact fin
 ·exact in64 (by show _≤((toBl s).length : Int)-1∧((toBl s).length : Int)-1≤_;rw [toB_len];have:=hp.s;omega)
 ·have h1:=hp.s
  have e:std.sub (std.len (std.toB s)) 1=(s.length:Int)-1:=by show ((toBl s).length : Int)-1=_;rw [toB_len]
  refine⟨hp.x.1,hp.x.2,by show -1≤std.sub (std.len (std.toB s)) 1;rw [e];omega,by show std.sub (std.len (std.toB s)) 1<1000000;rw [e];omega,s,rfl,rfl,fun _=>by show std.sub (std.len (std.toB s)) 1<(s.length:Int);rw [e];omega,?_⟩
  show shufL s x=shufG (std.sub (std.len (std.toB s)) 1).toNat x s
  rw [e]
  unfold shufL
  congr 1
  omega
 all_goals obtain⟨y0,y1,i0,i1,X,rfl,hX,hi,e⟩:=hk
 all_goals try (have hlt:0<i:=lt_of ‹_›)
 all_goals try (have hiX:=hi (by omega);have hkb:=sh_b (y:=y) hlt)
 all_goals try exact (⟨by omega,by show i<((toBl X).length : Int);rw [toB_len];exact hiX⟩:std.inL i (std.len (toBl X)))
 all_goals try exact sh_in y0 hlt (by show i<((toBl X).length : Int);rw [toB_len];exact hiX)
 all_goals try exact sh_in y0 hlt (by show i<(((toBl X).set i.toNat _).length : Int);rw [List.length_set,toB_len];exact hiX)
 ·show 0≤std.rem (std.add (std.mul y 1103515245) 12345) 2147483648∧std.rem (std.add (std.mul y 1103515245) 12345) 2147483648≤2147483647∧ -1≤i-1∧i-1<1000000∧∃Y,std.set (std.set (toBl X) i (std.get 0 (toBl X) (std.rem (std.quo (std.rem (std.add (std.mul y 1103515245) 12345) 2147483648) 65536) (std.add i 1)))) (std.rem (std.quo (std.rem (std.add (std.mul y 1103515245) 12345) 2147483648) 65536) (std.add i 1)) (std.get 0 (toBl X) i)=toBl Y∧(Y.length:Int)=s.length∧(0≤i-1→i-1<(Y.length:Int))∧shufL s x=shufG (i-1).toNat (std.rem (std.add (std.mul y 1103515245) 12345) 2147483648) Y
  rw [sh_m y0,sh_k y0]
  have hm:=mixN_bd y0
  refine⟨hm.1,by omega,by omega,by omega,swp X i.toNat ((mixN y/65536)%(i+1)).toNat,?_,by rw [swp_len];exact hX,fun _=>by rw [swp_len];exact Int.lt_trans (Int.sub_lt_self i (by decide)) hiX,by rw [e,shuf_step hlt]⟩
  show ((toBl X).set i.toNat ((toBl X).getD _ 0)).set _ ((toBl X).getD _ 0)=_
  rw [toB_get,toB_get,toB_set,toB_set];rfl
 ·have : i≤0:=ge_of h
  rw [e,show i.toNat=0 by omega]
  exact toS_toB X
structure SgL (u:Su) (b:List UInt8):Prop where
 su:SuL u
 own:OwnP u
 b:b.length≤274877906944
structure SgY (u:Su) (b:List UInt8):Prop where
 q:SgL u b
 c:bgnC u b=0
structure SgN (u:Su) (b:List UInt8):Prop where
 q:SgL u b
 c:bgnC u b≠0
def sgBag (b:List UInt8):List UInt8:=b.drop 14
def sgRks (b:List UInt8):List (List UInt8):=[isort (b.take 7),isort ((b.take 14).drop 7)]
section
variable {u:Su} {b:List UInt8}
structure SgF (u:Su) (b:List UInt8):Prop where
 su:suB u=true
 bg:bagB b=true
 so:isort b=allT u.ts
 lo:14≤b.length
 hi:b.length≤120
theorem sg_f (h:bgnC u b=0):SgF u b:=by
 unfold bgnC at h
 by_cases h1:(suB u&&bagB b)=true
 ·rw [if_pos h1] at h
  rw [Bool.and_eq_true] at h1
  by_cases h2:isort b=allT u.ts
  ·rw [if_pos h2] at h
   by_cases h3:b.length<14
   ·rw [if_pos h3] at h;exact absurd h (by decide)
   ·exact⟨h1.1,h1.2,h2,by omega,bag_len h1.2⟩
  ·rw [if_neg h2] at h;exact absurd h (by decide)
 ·rw [if_neg h1] at h;exact absurd h (by decide)
theorem sg1 (h:bgnC u b=0) (h2:suB u=false):False:=by have:=(sg_f h).su;rw [h2] at this;cases this
theorem sg2 (h:bgnC u b=0) (h2:bagB b=false):False:=by have:=(sg_f h).bg;rw [h2] at this;cases this
theorem sg3 (h:bgnC u b=0) (h2:std.eqS (isort b) (allT u.ts)=false):False:=by
 have:=(sg_f h).so
 rw [this] at h2
 exact beq_eq_false_iff_ne.1 h2 rfl
theorem sg4 (h:bgnC u b=0) (h2:std.ltI (std.lenS b) 14=true):False:=by
 have:=(sg_f h).lo
 have h3:(b.length:Int)<14:=lt_of h2
 omega
theorem bgnC_std (u:Su) (b:List UInt8):bgnC u b=if suB u&&bagB b then (if std.eqS (isort b) (allT u.ts) then (if std.ltI (std.lenS b) 14 then 6 else 0) else 2) else 1:=by
 unfold bgnC
 have e:(std.ltI (std.lenS b) 14=true)↔b.length<14:=by
  show decide ((b.length:Int)<14)=true↔_
  rw [decide_eq_true_eq];omega
 have e2:(std.eqS (isort b) (allT u.ts)=true)↔isort b=allT u.ts:=beq_iff_eq
 simp only [e,e2]
theorem sg5 (h:bgnC u b≠0) (h1:suB u=true) (h2:bagB b=true) (h3:std.eqS (isort b) (allT u.ts)=true) (h4:std.ltI (std.lenS b) 14=false):False:=by
 apply h
 rw [bgnC_std,h1,h2,h3,h4];rfl
theorem su_all (h:suB u=true):AllP u.ts:=by
 unfold suB at h
 rw [Bool.and_eq_true] at h
 exact (tsB_all h.1).1
end
def sp_s_StartGame_y (p:Pr):FSpec:=fsp (ac (aA aSu) (a1 aS)) (fun (u,b)=>SgY u b) (fun (u,b)=>.tup [.agg (gmK ⟨u.ts,u.lex,u.bd,u.secs,u.rule,⟨u.bd.size,u.bd.prem,u.bd.cells⟩,sgBag b,[],[],[],0,0,⟨0,0,⟨0,0,false,[]⟩,[],[],0,0⟩,false⟩ (.osl 0) (.osl 1) (.osl 2) (.osl 3) (.osl 4) (.osl 5)),.i .i64 0]) (fun (u,b)=>[(0,.own [.i .i64] u.ts.values 2),(1,.own [.i .i64] u.ts.counts 2),(2,.own [.s] u.lex 9),(3,.own [.s] (sgRks b) 9),(4,.own [.i .i64] [0,0] 2),(5,.own [.i .i64] [u.secs,u.secs] 2)])
theorem ok_s_StartGame_y:FOk Tryz.prog 10 (sp_s_StartGame_y std):=by
 refine FOk.go (c:=cx std [(61,sp_s_l18Setup std),(62,sp_s_l17Ok std),(63,sp_s_l03Sort std),(54,sp_s_l02All std),(64,sp_s_l18OwnSetup std)] [] 0) (cx_ok (.cons ok_s_l18Setup (.cons ok_s_l17Ok (.cons ok_s_l03Sort (.cons ok_s_l02All (.cons ok_s_l18OwnSetup .nil))))) .nil) mixed Tryz.func10 rfl rfl rfl (by kernel_rfl) ?_
 rintro ⟨u,b⟩ hp
 dsimp only at hp
 refine⟨rfl,?_⟩
 unfold sp_s_l18Setup sp_s_l17Ok sp_s_l03Sort sp_s_l02All sp_s_l18OwnSetup
 generalize hP:std=p,hB0:suB=B0,hB1:bagB=B1,hB2:isort=B2,hB3:allT=B3,hB4:sgBag=B4,hB5:sgRks=B5
 cbv
 repeat' first
  | (refine fun (_:Unit)=>?_;cbv)
  | (refine aI2 (fun h=>?_) (fun h=>?_)<;>cbv)
  | (refine aI2 ?_ ?_)
  | (refine Or.inl (fun (_:Unit)=>?_);cbv)
 all_goals subst hP hB0 hB1 hB2 hB3 hB4 hB5
 all_goals try (exfalso;exact sg1 hp.c ‹_›)
 all_goals try (exfalso;exact sg2 hp.c ‹_›)
 all_goals try (exfalso;exact sg3 hp.c ‹_›)
 all_goals try (exfalso;exact sg4 hp.c ‹_›)
 all_goals try exact fin
 all_goals have hF:=sg_f hp.c
 all_goals have h1:=hF.lo
 all_goals have h2:=hF.hi
 all_goals first
  | exact hp.q.su
  | exact hp.q.own
  | exact ltM_of hp.q.b
  | exact su_all ‹_›
  | skip
def sp_s_StartGame_n (p:Pr):FSpec:=fsp (ac (aA aSu) (a1 aS)) (fun (u,b)=>SgN u b) (fun (u,b)=>.tup [.agg (gmK gm0 .esl .esl .esl .esl .esl .esl),.i .i64 (bgnC u b)])
theorem ok_s_StartGame_n:FOk Tryz.prog 10 (sp_s_StartGame_n std):=by
 refine FOk.go (c:=cx std [(61,sp_s_l18Setup std),(62,sp_s_l17Ok std),(63,sp_s_l03Sort std),(54,sp_s_l02All std),(64,sp_s_l18OwnSetup std)] [] 0) (cx_ok (.cons ok_s_l18Setup (.cons ok_s_l17Ok (.cons ok_s_l03Sort (.cons ok_s_l02All (.cons ok_s_l18OwnSetup .nil))))) .nil) mixed Tryz.func10 rfl rfl rfl (by kernel_rfl) ?_
 rintro ⟨u,b⟩ hp
 dsimp only at hp
 refine⟨rfl,?_⟩
 unfold sp_s_l18Setup sp_s_l17Ok sp_s_l03Sort sp_s_l02All sp_s_l18OwnSetup
 generalize hP:std=p,hB0:suB=B0,hB1:bagB=B1,hB2:isort=B2,hB3:allT=B3,hB4:bgnC=B4
 cbv
 repeat' first
  | (refine fun (_:Unit)=>?_;cbv)
  | (refine aI2 (fun h=>?_) (fun h=>?_)<;>cbv)
  | (refine aI2 ?_ ?_)
  | (refine Or.inl (fun (_:Unit)=>?_);cbv)
 all_goals subst hP hB0 hB1 hB2 hB3 hB4
 all_goals try (exfalso;exact sg5 hp.c ‹_› ‹_› ‹_› ‹_›)
 all_goals try exact fin
 all_goals first
  | exact hp.q.su
  | exact hp.q.own
  | exact ltM_of hp.q.b
  | exact su_all ‹_›
  | (rw [bgnC_std];simp only [*]<;>simp;done)
  | skip
end Ax
namespace Ax
set_option maxRecDepth 100000
set_option maxHeartbeats 20000000
structure AcM (a:Ac):Prop where
 w:(a.play.word.length:Int)≤1048576
 t:(a.tiles.length:Int)≤1048576
structure RcL (r:Rcd):Prop where
 n:(r.acts.length:Int)≤1048576
 a : ∀k:Int,AcM (acN r k)
section
variable {r:Rcd} {u:Su} {k:Int}
theorem rcA_step (h0:0≤k) (h:k<r.acts.length):rcA (r.acts.drop k.toNat)=(actB (acN r k)&&rcA (r.acts.drop (k+1).toNat)):=by
 unfold rcA
 rw [dc h0 h (dE shAc)];rfl
theorem rcA_end (h:(r.acts.length:Int)≤k):rcA (r.acts.drop k.toNat)=true:=by
 unfold rcA
 rw [dn h];rfl
theorem acl_of (h:AcM (acN r k)):AcL (acN r k):=⟨by have:=h.w;omega,by have:=h.t;omega⟩
theorem rep_len (c:Int) (x:UInt8) (h:c≤20):(List.replicate c.toNat x).length ≤20:=by rw [List.length_replicate];omega
theorem repT_len : ∀(l:List UInt8) (c:List Int),(∀k:Nat,c.getD k 0≤20)→(repT l c).length ≤20*l.length
 | [],_,_=>by simp [repT]
 | _::_,[],_=>by simp [repT]
 | a::l,x::c,h=>by
   have h1:=repT_len l c fun k=>h (k+1)
   have h2:=rep_len x a (h 0)
   rw [repT,List.length_append,List.length_cons]
   omega
theorem allT_len {t:TS} (h:AllP t):(allT t).length ≤1000:=by
 have h1:=repT_len t.letters t.counts h.hi
 have h2:=rep_len t.blanks 63 (Int.le_trans h.bl (by decide))
 have h3:=h.ok.len
 unfold allT
 rw [List.length_append]
 omega
@[simp] theorem eta_rcd (r:Rcd):Rcd.mk r.seed r.acts=r:=rfl
@[simp] theorem eta_suw (u:Su):Su.mk u.ts u.lex u.bd u.secs u.rule=u:=rfl
end
def sp_s_l20Ok (p:Pr):FSpec:=fsp (a1 (aP aRcd)) (fun r=>RcL r) (fun r=>.b (rcB r))
theorem ok_s_l20Ok:FOk Tryz.prog 179 (sp_s_l20Ok std):=by
 refine FOk.go (c:=cx std [(225,sp_s_l20Action std),(78,sp_s_l00In std)] [] 0) (cx_ok (.cons ok_s_l20Action (.cons ok_s_l00In .nil)) .nil) mixed Tryz.func179 rfl rfl rfl (by kernel_rfl) ?_
 rintro r hp
 refine⟨rfl,?_⟩
 unfold sp_s_l20Action sp_s_l00In
 obtain⟨H,hH⟩ : ∃H:Hd (Int),H=⟨fun k=>0≤k∧k≤r.acts.length∧rcB r=(rcA (r.acts.drop k.toNat)&&rcT r),fun k=>(r.acts.length-k).toNat,(· < ·)⟩:=⟨_,rfl⟩
 have hl : ∀m n,H.lt m n→m<n:=by subst hH;exact fun _ _ h=>h
 generalize hP:std=p,hB0:rcB=B0,hB1:actB=B1,hB2:inR=B2
 cbv
 repeat' first
  | (refine fun (_:Unit)=>?_;cbv)
  | (refine Or.inr ⟨4,[],[.s 3 (.i .i64)],[],[],H,rfl,hl,?_,fun (k:Int) hk=>?_⟩<;>cbv)
  | (refine aI2 (fun h=>?_) (fun h=>?_)<;>cbv)
  | (refine aI2 ?_ ?_)
 all_goals subst hP hB0 hB1 hB2 hH
 all_goals clear hl
 all_goals try dsimp only at hk
 all_goals try dsimp only
 all_goals try exact fin
 ·exact⟨Int.le_refl 0,Int.natCast_nonneg _,rfl⟩
 all_goals obtain⟨q0,q1,q2⟩:=hk
 all_goals have hn:=hp.n
 all_goals try (have hlt:k<(r.acts.length:Int):=lt_of ‹_›)
 ·exact acl_of (hp.a k)
 ·rw [q2,rcA_step q0 hlt,show actB (acN r k)=false from h];rfl
 ·exact in64 (by show _≤k+1∧k+1≤_;omega)
 ·refine⟨by show 0≤k+1;omega,by show k+1≤(r.acts.length:Int);omega,?_⟩
  rw [q2,rcA_step q0 hlt,show actB (acN r k)=true from h,Bool.true_and];rfl
 ·rw [q2,rcA_end (ge_of ‹_›),Bool.true_and,rcT,show inR r.seed 0 2147483647=true from h,Bool.true_and]
  show decide ((r.acts.length:Int)≤200)=decide (r.acts.length≤200)
  rw [Bool.eq_iff_iff,decide_eq_true_eq,decide_eq_true_eq];omega
 ·rw [q2,rcT,show inR r.seed 0 2147483647=false from h,Bool.false_and,Bool.and_false]
def sp_s_StartGame (p:Pr):FSpec:=fsp (ac (aA aSu) (a1 aS)) (fun (u,b)=>SgL u b) (fun (u,b)=>.tup [.agg (gmO6 (bgnR u b)),.i .i64 (bgnC u b)]) (fun (u,b)=>gmH6 (bgnR u b))
def spSgN (p:Pr):FSpec:=fsp (ac (aA aSu) (a1 aS)) (fun (u,b)=>SgN u b) (fun (u,b)=>.tup [.agg (gmO6 gm0),.i .i64 (bgnC u b)]) (fun _=>gmH6 gm0)
theorem okSgN:FOk Tryz.prog 10 (spSgN std):=FOk.own ok_s_StartGame_n rfl fun ⟨u,b⟩ w e v h hr=>
 tup_fol (.cons (agg_fol (esl_fol h)) (.cons (fun _ h=>h) .nil)) v hr
theorem ok_s_StartGame:FOk Tryz.prog 10 (sp_s_StartGame std):=FOk.casesE ok_s_StartGame_y okSgN fun ⟨u,b⟩ hp=>by
 by_cases hc:bgnC u b=0
 ·have e:bgnG u b=bgnR u b:=(if_pos hc).symm
  refine .inl ⟨⟨hp,hc⟩,?_,?_⟩
  ·show _=PV.tup [.agg (gmO6 (bgnR u b)),.i .i64 (bgnC u b)]
   rw [hc,←e];rfl
  ·show _=gmH6 (bgnR u b)
   rw [←e];rfl
 ·refine .inr ⟨⟨hp,hc⟩,?_,?_⟩
  ·show _=PV.tup [.agg (gmO6 (bgnR u b)),.i .i64 (bgnC u b)]
   unfold bgnR;rw [if_neg hc]
  ·show _=gmH6 (bgnR u b)
   unfold bgnR;rw [if_neg hc]
def sp_s_StartGameF (p:Pr):FSpec:=fsp (ac (aA aSu) (a1 aS)) (fun (u,b)=>SgL u b) (fun (u,b)=>.tup [.agg (gmR (bgnR u b)),.i .i64 (bgnC u b)])
theorem ok_s_StartGameF:FOk Tryz.prog 10 (sp_s_StartGameF std):=FOk.frz ok_s_StartGame fun ⟨u,b⟩=>by
 refine⟨?_,?_⟩
 ·simp [deep,deeps,AH.get,gmH6,gmO6,gmK,gmR]
 ·simp [PV.idIn,idInL,gmK,gmR]
def sp_s_l20DoF (p:Pr):FSpec:=fsp (ac (aA aGm) (a1 (aP aAc))) (fun (g,a)=>DoL g a) (fun (g,a)=>.tup [.agg (gmR (doG g a)),.i .i64 (doP g a),.i .i64 (doC g a)])
theorem ok_s_l20DoF:FOk Tryz.prog 180 (sp_s_l20DoF std):=FOk.frz ok_s_l20Do fun ⟨g,a⟩=>by
 refine⟨?_,?_⟩
 ·simp [deep,deeps,AH.get,gmH6,gmO6,gmK,gmR]
 ·simp [PV.idIn,idInL,gmK,gmR]
def bgR (u:Su) (r:Rcd):Gm:=if bgC u r=0 then bgG u r else gm0
structure BgL (u:Su) (r:Rcd):Prop where
 su:SuL u
 own:OwnP u
 rc:RcL r
theorem bg_1 {u:Su} {r:Rcd} (h:(suB u&&rcB r)=false):bgC u r=1∧bgR u r=gm0:=by
 have e:bgC u r=1:=if_neg (by rw [h];simp)
 exact⟨e,if_neg (by rw [e];decide)⟩
theorem bg_0 {u:Su} {r:Rcd} (h1:suB u=true) (h2:rcB r=true):bgC u r=bgnC u (shufL (allT u.ts) r.seed)∧bgR u r=bgnR u (shufL (allT u.ts) r.seed):=by
 have e:bgC u r=bgnC u (shufL (allT u.ts) r.seed):=if_pos (by rw [h1,h2];rfl)
 refine⟨e,?_⟩
 unfold bgR bgnR
 rw [e];rfl
theorem rc_seed {r:Rcd} (h:rcB r=true):0≤r.seed∧r.seed≤2147483647:=by
 unfold rcB rcT at h
 simp only [Bool.and_eq_true] at h
 exact in_bd h.2.1
def sp_s_l20Start (p:Pr):FSpec:=fsp (ac (aP aSu) (a1 (aP aRcd))) (fun (u,r)=>BgL u r) (fun (u,r)=>.tup [.agg (gmR (bgR u r)),.i .i64 (bgC u r)])
theorem ok_s_l20Start:FOk Tryz.prog 103 (sp_s_l20Start std):=by
 refine FOk.go (c:=cx std [(61,sp_s_l18Setup std),(179,sp_s_l20Ok std),(54,sp_s_l02All std),(128,sp_s_l17Shuffle std),(10,sp_s_StartGameF std)] [] 0) (cx_ok (.cons ok_s_l18Setup (.cons ok_s_l20Ok (.cons ok_s_l02All (.cons ok_s_l17Shuffle (.cons ok_s_StartGameF .nil))))) .nil) mixed Tryz.func103 rfl rfl rfl (by kernel_rfl) ?_
 rintro ⟨u,r⟩ hp
 dsimp only at hp
 refine⟨rfl,?_⟩
 unfold sp_s_l18Setup sp_s_l20Ok sp_s_l02All sp_s_l17Shuffle sp_s_StartGameF
 generalize hP:std=p,hB0:suB=B0,hB1:rcB=B1,hB2:allT=B2,hB3:shufL=B3,hB4:bgnR=B4,hB5:bgnC=B5,hB6:bgR=B6,hB7:bgC=B7
 cbv
 repeat' first
  | (refine fun (_:Unit)=>?_;cbv)
  | (refine aI2 (fun h=>?_) (fun h=>?_)<;>cbv)
  | (refine aI2 ?_ ?_)
  | (refine Or.inl (fun (_:Unit)=>?_);cbv)
 all_goals subst hP hB0 hB1 hB2 hB3 hB4 hB5 hB6 hB7
 all_goals try exact fin
 all_goals (try simp only [eta_ts,eta_bd,eta_suw,eta_rcd] at *)
 all_goals first
  | exact hp.su
  | exact hp.rc
  | exact su_all ‹_›
  | exact (⟨Nat.le_trans (allT_len (su_all ‹_›)) (by decide),rc_seed ‹_›⟩:ShP (allT u.ts) r.seed)
  | exact (⟨hp.su,hp.own,by rw [shufL_len];exact Nat.le_trans (allT_len (su_all ‹_›)) (by decide)⟩:SgL u (shufL (allT u.ts) r.seed))
  | (rw [(bg_0 (u:=u) (r:=r) ‹_› ‹_›).2];done)
  | (rw [(bg_0 (u:=u) (r:=r) ‹_› ‹_›).1];done)
  | (rw [(bg_1 (u:=u) (r:=r) (by simp only [*]<;>simp)).2];rfl)
  | (rw [(bg_1 (u:=u) (r:=r) (by simp only [*]<;>simp)).1];done)
  | skip
@[reducible] def shG:List AtTy:=[.s,.r [.i .i64],.r [.i .i64],.i .i64,.r [.s],.i .i64,.s,.s,.i .i64,.i .i64,.i .i64,.s,.s,.s,.r [.s],.r [.i .i64],.r [.i .i64],.i .i64,.i .i64,.i .i64,.i .i64,.i .i64,.i .i64,.b,.s,.s,.s,.i .i64,.i .i64,.b]
def gE (g:Gm):El shG:=(g.ts.letters,g.ts.values,g.ts.counts,g.ts.blanks,g.lex,g.bd0.size,g.bd0.prem,g.bd0.cells,g.secs,g.rule,g.bd.size,g.bd.prem,g.bd.cells,g.bag,g.racks,g.scores,g.clocks,g.player,g.zeros,g.last.kind,g.last.player,g.last.play.row,g.last.play.col,g.last.play.down,g.last.play.word,g.last.before,g.last.drawn,g.last.score,g.last.zeros,g.over)
structure RunJ (g:Gm) (r:Rcd) (k:Int) (L:List (El shG)) (P:List Int) (x:Gm):Prop where
 lo:0≤k
 hi:k≤r.acts.length
 b:GmB 1048576 x
 e:((runR g r.acts).1.map gE=L++(runR x (r.acts.drop k.toNat)).1.map gE)∧((runR g r.acts).2.1=P++(runR x (r.acts.drop k.toNat)).2.1)∧(runR g r.acts).2.2=(runR x (r.acts.drop k.toNat)).2.2
 l:(L.length:Int)=k∧(P.length:Int)=k
structure RunL (g:Gm) (r:Rcd):Prop where
 rc:RcL r
 g:GmB 1048576 g
def ruL (g:Gm) (r:Rcd):List (El shG):=(runR g r.acts).1.map gE
def ruP (g:Gm) (r:Rcd):List Int:=(runR g r.acts).2.1
def ruC (g:Gm) (r:Rcd):Int:=(runR g r.acts).2.2
section
variable {g x:Gm} {r:Rcd} {k:Int} {L:List (El shG)} {P:List Int}
theorem runR_cons (x:Gm) (y:El shAc) (l:List (El shAc)):runR x (y::l)=if doC x (acE y)=0 then (doG x (acE y)::(runR (doG x (acE y)) l).1,doP x (acE y)::(runR (doG x (acE y)) l).2.1,(runR (doG x (acE y)) l).2.2) else ([],[],doC x (acE y)):=by rw [runR]
theorem run_0 (h:RunL g r):RunJ g r 0 [] [] g:=⟨Int.le_refl 0,Int.natCast_nonneg _,h.g,⟨rfl,rfl,rfl⟩,⟨rfl,rfl⟩⟩
theorem run_no (hk:RunJ g r k L P x) (hlt:k<r.acts.length) (hc:doC x (acN r k)≠0):L=ruL g r∧P=ruP g r∧doC x (acN r k)=ruC g r:=by
 obtain⟨e1,e2,e3⟩:=hk.e
 have hc : ¬doC x (acE (r.acts.getD k.toNat (dE shAc)))=0:=hc
 rw [dc hk.lo hlt (dE shAc),runR_cons,if_neg hc] at e1 e2 e3
 exact⟨by unfold ruL;rw [e1];simp,by unfold ruP;rw [e2];simp,by unfold ruC;rw [e3];rfl⟩
theorem run_yes (hk:RunJ g r k L P x) (hlt:k<r.acts.length) (hc:doC x (acN r k)=0) (hr:RcL r):RunJ g r (k+1) (L++[gE (doG x (acN r k))]) (P++[doP x (acN r k)]) (doG x (acN r k)):=by
 obtain⟨e1,e2,e3⟩:=hk.e
 have h0:=hk.lo
 obtain⟨l1,l2⟩:=hk.l
 have hc1:doC x (acE (r.acts.getD k.toNat (dE shAc)))=0:=hc
 rw [dc hk.lo hlt (dE shAc),runR_cons,if_pos hc1] at e1 e2 e3
 refine⟨by omega,by omega,doG_b hk.b hc (hr.a k).w,⟨?_,?_,e3⟩,?_,?_⟩
 ·rw [e1,List.append_assoc];rfl
 ·rw [e2,List.append_assoc];rfl
 ·rw [List.length_append,List.length_singleton];omega
 ·rw [List.length_append,List.length_singleton];omega
theorem run_end (hk:RunJ g r k L P x) (hge:(r.acts.length:Int)≤k):L=ruL g r∧P=ruP g r∧0=ruC g r:=by
 obtain⟨e1,e2,e3⟩:=hk.e
 rw [dn hge] at e1 e2 e3
 exact⟨by unfold ruL;rw [e1];simp [runR],by unfold ruP;rw [e2];simp [runR],by unfold ruC;rw [e3];rfl⟩
theorem run_do (hk:RunJ g r k L P x) (hr:RcL r):DoL x (acN r k):=by
 have hs:=hk.b.s (q:=⟨0,0,false,[]⟩) (by decide) (by decide)
 have h1:=hr.a k
 exact⟨hs.gm,hs.own,by have:=h1.w;omega,by have:=h1.t;omega⟩
end
@[reducible] def ruV:List LV:=LV.s 9 (.i .i64)::LV.o 1 shG::LV.o 2 [.i .i64]::LV.c 0 0 .s ::LV.c 0 1 (.r [.i .i64])::LV.c 0 2 (.r [.i .i64])::LV.c 0 3 (.i .i64)::LV.c 0 4 (.r [.s])::LV.c 0 5 (.i .i64)::LV.c 0 6 .s ::LV.c 0 7 .s ::LV.c 0 8 (.i .i64)::LV.c 0 9 (.i .i64)::LV.c 0 10 (.i .i64)::LV.c 0 11 .s ::LV.c 0 12 .s ::LV.c 0 13 .s ::LV.c 0 14 (.r [.s])::LV.c 0 15 (.r [.i .i64])::LV.c 0 16 (.r [.i .i64])::LV.c 0 17 (.i .i64)::LV.c 0 18 (.i .i64)::LV.c 0 19 (.i .i64)::LV.c 0 20 (.i .i64)::LV.c 0 21 (.i .i64)::LV.c 0 22 (.i .i64)::LV.c 0 23 .b ::LV.c 0 24 .s ::LV.c 0 25 .s ::LV.c 0 26 .s ::LV.c 0 27 (.i .i64)::LV.c 0 28 (.i .i64)::LV.c 0 29 .b ::[]
def sp_s_l20Run (p:Pr):FSpec:=fsp (ac (aA aGm) (a1 (aP aRcd))) (fun (g,r)=>RunL g r) (fun (g,r)=>.tup [.rsl shG (ruL g r),.rsl [.i .i64] (ruP g r),.i .i64 (ruC g r)])
def sp_s_l20Run_o (p:Pr):FSpec:=fsp (ac (aA aGm) (a1 (aP aRcd))) (fun (g,r)=>RunL g r) (fun (g,r)=>.tup [.osl 0,.osl 1,.i .i64 (ruC g r)]) (fun (g,r)=>[(0,.own shG (ruL g r) 41),(1,.own [.i .i64] (ruP g r) 2)])
theorem ok_s_l20Run_o:FOk Tryz.prog 104 (sp_s_l20Run_o std):=by
 refine FOk.go (c:=cx std [(180,sp_s_l20DoF std)] [] 0) (cx_ok (.cons ok_s_l20DoF .nil) .nil) mixed Tryz.func104 rfl rfl rfl (by kernel_rfl) ?_
 rintro ⟨g,r⟩ hp
 dsimp only at hp
 refine⟨rfl,?_⟩
 unfold sp_s_l20DoF
 obtain⟨H,hH⟩ : ∃H:Hd (Int×List (El shG)×List Int×List UInt8×List Int×List Int×Int×List (List UInt8)×Int×List UInt8×List UInt8×Int×Int×Int×List UInt8×List UInt8×List UInt8×List (List UInt8)×List Int×List Int×Int×Int×Int×Int×Int×Int×Bool×List UInt8×List UInt8×List UInt8×Int×Int×Bool),H=⟨fun (k,L,P,x0,x1,x2,x3,x4,x5,x6,x7,x8,x9,x10,x11,x12,x13,x14,x15,x16,x17,x18,x19,x20,x21,x22,x23,x24,x25,x26,x27,x28,x29)=>RunJ g r k L P ⟨⟨x0,x1,x2,x3⟩,x4,⟨x5,x6,x7⟩,x8,x9,⟨x10,x11,x12⟩,x13,x14,x15,x16,x17,x18,⟨x19,x20,⟨x21,x22,x23,x24⟩,x25,x26,x27,x28⟩,x29⟩,fun (k,L,P,x0,x1,x2,x3,x4,x5,x6,x7,x8,x9,x10,x11,x12,x13,x14,x15,x16,x17,x18,x19,x20,x21,x22,x23,x24,x25,x26,x27,x28,x29)=>(r.acts.length-k).toNat,(· < ·)⟩:=⟨_,rfl⟩
 have hl : ∀m n,H.lt m n→m<n:=by subst hH;exact fun _ _ h=>h
 generalize hP:std=p,hB0:ruL=B0,hB1:ruP=B1,hB2:ruC=B2,hB3:doG=B3,hB4:doP=B4,hB5:doC=B5
 cbv
 repeat' first
  | (refine fun (_:Unit)=>?_;cbv)
  | (refine Or.inr ⟨15,[],ruV,[.s 7,.s 8],[],H,rfl,hl,?_,fun ((k,L,P,x0,x1,x2,x3,x4,x5,x6,x7,x8,x9,x10,x11,x12,x13,x14,x15,x16,x17,x18,x19,x20,x21,x22,x23,x24,x25,x26,x27,x28,x29):Int×List (El shG)×List Int×List UInt8×List Int×List Int×Int×List (List UInt8)×Int×List UInt8×List UInt8×Int×Int×Int×List UInt8×List UInt8×List UInt8×List (List UInt8)×List Int×List Int×Int×Int×Int×Int×Int×Int×Bool×List UInt8×List UInt8×List UInt8×Int×Int×Bool) hk=>?_⟩<;>cbv)
  | (refine aI2 (fun h=>?_) (fun h=>?_)<;>cbv)
  | (refine aI2 ?_ ?_)
 all_goals subst hP hB0 hB1 hB2 hB3 hB4 hB5 hH
 all_goals clear hl
 all_goals try dsimp only at hk
 all_goals try dsimp only
 all_goals try exact fin
 ·exact run_0 hp
 all_goals have hn:=hp.rc.n
 all_goals try (have hlt:k<(r.acts.length:Int):=lt_of ‹_›)
 all_goals try (have hge:(r.acts.length:Int)≤k:=ge_of ‹_›)
 all_goals have q0:=hk.lo
 all_goals have q1:=hk.hi
 all_goals have q2:=hk.l
 ·exact⟨q0,hlt⟩
 ·exact run_do hk hp.rc
 ·exact congrArg (fun z=>Ob.own shG z 41) (run_no hk hlt (eqI_f h)).1
 ·exact congrArg (fun z=>Ob.own [.i .i64] z 2) (run_no hk hlt (eqI_f h)).2.1
 ·exact (run_no hk hlt (eqI_f h)).2.2
 ·show (L.length:Int)+1≤274877906944
  omega
 ·show (P.length:Int)+1≤274877906944
  omega
 ·exact in64 (by show _≤k+1∧k+1≤_;omega)
 ·exact run_yes hk hlt (eqI_t h) hp.rc
 ·exact congrArg (fun z=>Ob.own shG z 41) (run_end hk hge).1
 ·exact congrArg (fun z=>Ob.own [.i .i64] z 2) (run_end hk hge).2.1
 ·exact (run_end hk hge).2.2
theorem ok_s_l20Run:FOk Tryz.prog 104 (sp_s_l20Run std):=FOk.frz ok_s_l20Run_o fun ⟨g,r⟩=>⟨by simp [deep,deeps,AH.get],by simp [PV.idIn,idInL]⟩
end Ax
namespace Ax
open Go.RowKit
section
variable {P:Program} {c:Cx} {w w0:World} {e:Env} {fz:Nat→Prop} {M:Root} {st:AS} {a:Act} {f:FuncId}
theorem idIn_get : ∀{l:List PV} {K:List Nat} {t:Nat} {p:PV},idInL K l=true→l[t]? =some p→p.idIn K=true
 | [],_,_,_,_,h=>by simp at h
 | q::r,K,0,p,hi,h=>by
   unfold idInL at hi
   rw [Bool.and_eq_true] at hi
   simp only [List.getElem?_cons_zero,Option.some.injEq] at h
   exact h ▸ hi.1
 | q::r,K,t+1,p,hi,h=>by
   unfold idInL at hi
   rw [Bool.and_eq_true] at hi
   exact idIn_get hi.2 (by simpa using h)
end
end Ax
namespace Ax
set_option maxRecDepth 100000
set_option maxHeartbeats 20000000
structure SuB (n:Int) (u:Su):Prop where
 ts:TsB n u.ts
 lx:WsB n u.lex
 bd:BdB n u.bd
structure RpL (u:Su) (r:Rcd):Prop where
 su:SuB 1048576 u
 rc:RcL r
section
variable {u:Su} {r:Rcd}
theorem bag_bd (h1:suB u=true) (x:Int):(shufL (allT u.ts) x).length ≤1000:=by
 rw [shufL_len];exact allT_len (su_all h1)
theorem RpL.bg (h:RpL u r):BgL u r:=by
 have h1:=h.su.ts
 have h2:=h.su.lx
 refine⟨⟨ts_l h1 (by decide),⟨?_,fun k=>?_⟩,bd_p h.su.bd (by decide)⟩,⟨?_,?_,?_⟩,h.rc⟩
 ·have:=h2.l;omega
 ·have:=h2.w (k:Int)
  rw [Int.toNat_natCast] at this
  omega
 ·have:=h1.v;omega
 ·have:=h1.c;omega
 ·have:=h2.l;omega
theorem bgn_b {b:List UInt8} (h:SuB 1048576 u) (hb:b.length≤1000):GmB 1048576 (bgnG u b):=by
 refine⟨h.ts,h.lx,h.bd,h.bd,?_,⟨by show ((2:Nat):Int)≤_;decide,fun k=>?_⟩,by show ((2:Nat):Int)≤_;decide,by show ((2:Nat):Int)≤_;decide,z0,z0,z0⟩
 ·show ((b.drop 14).length : Int)≤_
  rw [List.length_drop];omega
 ·have e1:(isort (b.take 7)).length ≤1000:=by rw [isort_length,List.length_take];omega
  have e2:(isort ((b.take 14).drop 7)).length ≤1000:=by rw [isort_length,List.length_drop,List.length_take];omega
  show (([isort (b.take 7),isort ((b.take 14).drop 7)].getD k.toNat []).length : Int)≤_
  rcases hk:k.toNat with _ | _ | n
  ·show ((isort (b.take 7)).length : Int)≤_;omega
  ·show ((isort ((b.take 14).drop 7)).length : Int)≤_;omega
  ·exact z0
theorem bg_su (hc:bgC u r=0):suB u=true:=by
 unfold bgC at hc
 split at hc
 ·rename_i h
  rw [Bool.and_eq_true] at h
  exact h.1
 ·cases hc
theorem bg_eq (hc:bgC u r=0):bgR u r=bgG u r:=if_pos hc
theorem run_l (h:RpL u r) (hc:bgC u r=0):RunL (bgR u r) r:=by
 refine⟨h.rc,?_⟩
 rw [bg_eq hc]
 exact bgn_b h.su (bag_bd (bg_su hc) _)
end
section
variable {u:Su} {r:Rcd}
end
end Ax
namespace Ax
set_option maxRecDepth 100000
set_option maxHeartbeats 20000000
def mX:MArgs Int:=⟨fun H l=>match H,l with
 | [(0,.cells [.i .i64 x] t)],[.ptr 0 0]=>if t=2 then some x else none
 | _,_=>none,fun x=>[(0,.cells [.i .i64 x] 2)],fun _=>[.ptr 0 0],fun H l a h=>by
   split at h
   ·split at h
    ·rename_i ht
     cases h
     exact⟨by rw [ht],rfl⟩
    ·cases h
   ·cases h⟩
def mixV (y:Int):Int:=mixN y/65536
structure MixP (y:Int):Prop where
 lo:0≤y
 hi:y≤2147483647
def sp_i_mixer_1 (p:Pr):MSpec:=msp mX (fun y=>MixP y) (fun y=>.i .i64 (mixV y)) (fun y=>[(0,.cells [.i .i64 (mixN y)] 2)])
theorem ok_i_mixer_1:MOk Tryz.prog 304 (sp_i_mixer_1 std):=by
 refine MOk.go (c:=cx std [] [] 1) (cx_ok .nil .nil) mixed Tryz.func304 rfl rfl (by kernel_rfl) ?_
 rintro y hp
 refine⟨rfl,?_⟩
 generalize hP:std=p,hB0:mixN=B0,hB1:mixV=B1
 cbv
 repeat' first
  | (refine fun (_:Unit)=>?_;cbv)
  | (refine aI2 (fun h=>?_) (fun h=>?_)<;>cbv)
  | (refine aI2 ?_ ?_)
  | (refine Or.inl (fun (_:Unit)=>?_);cbv)
 all_goals subst hP hB0 hB1
 all_goals try exact fin
 all_goals have y0:=hp.lo
 all_goals have y1:=hp.hi
 ·exact in64 (by show _≤y*1103515245∧y*1103515245≤_;omega)
 ·exact in64 (by show _≤y*1103515245+12345∧y*1103515245+12345≤_;omega)
 ·exact sh_m y0
 ·show std.quo (std.rem (std.add (std.mul y 1103515245) 12345) 2147483648) 65536=mixV y
  rw [sh_m y0]
  exact quo_nn (mixN_bd y0).1
def sp_i_mixer (p:Pr):FSpec:=fsp (a1 aI) (fun x=>True) (fun x=>.fn 304 [.ptr 0 0]) (fun x=>[(0,.cells [.i .i64 x] 2)])
theorem ok_i_mixer:FOk Tryz.prog 269 (sp_i_mixer std):=by
 refine FOk.go (c:=cx std [] [] 0) (cx_ok .nil .nil) mixed Tryz.func269 rfl rfl rfl (by kernel_rfl) ?_
 rintro x hp
 refine⟨rfl,?_⟩
 generalize hP:std=p
 cbv
 repeat' first
  | (refine fun (_:Unit)=>?_;cbv)
  | (refine aI2 (fun h=>?_) (fun h=>?_)<;>cbv)
  | (refine aI2 ?_ ?_)
  | (refine Or.inl (fun (_:Unit)=>?_);cbv)
 all_goals subst hP
 all_goals try exact fin
def sbC (t:TS) (x:Int):Int:=if tsB t=true then (if inR x 0 2147483647=true then 0 else 2) else 1
def sbS (t:TS) (x:Int):List UInt8:=if sbC t x=0 then shufL (allT t) x else []
section
variable {t:TS} {x:Int}
theorem sb_1 (h:tsB t=false):sbC t x=1∧sbS t x=[]:=by
 have e:sbC t x=1:=if_neg (by rw [h];decide)
 exact⟨e,if_neg (by rw [e];decide)⟩
theorem sb_2 (h:tsB t=true) (h2:inR x 0 2147483647=false):sbC t x=2∧sbS t x=[]:=by
 have e:sbC t x=2:=(if_pos h).trans (if_neg (by rw [h2];decide))
 exact⟨e,if_neg (by rw [e];decide)⟩
theorem sb_0 (h:tsB t=true) (h2:inR x 0 2147483647=true):sbC t x=0∧sbS t x=shufL (allT t) x:=by
 have e:sbC t x=0:=(if_pos h).trans (if_pos h2)
 exact⟨e,if_pos e⟩
theorem sb_tl (h:tsB t=true):TlP t:=⟨(tsB_all h).1,(tsB_all h).2.1,(tsB_all h).2.2⟩
theorem sb_len (h:tsB t=true):(allT t).length ≤1000:=allT_len (tsB_all h).1
theorem mx_k {y i:Int} (h:0≤y) (hi:0<i):std.rem (mixV y) (std.add i 1)=(mixN y/65536)%(i+1):=rem_nn (by have:=(mixN_bd h).1;unfold mixV;omega)
end
structure ShJ (t:TS) (x i:Int) (L:List Int) (y:Int):Prop where
 m:MixP y
 lo : -1≤i
 hi:i<1000000
 e : ∃X,L=toBl X∧X.length=(allT t).length ∧(0≤i→i<X.length)∧shufL (allT t) x=shufG i.toNat y X
section
variable {t:TS} {x i y:Int} {L:List Int}
theorem le_t {a b:Int} (h:std.leI a b=true):a≤b:=by simpa using h
theorem le_f {a b:Int} (h:std.leI a b=false):b<a:=by simpa using h
theorem ShJ.ix (h:ShJ t x i L y) (hi:0<i):std.inL i (std.len L):=by
 obtain⟨X,rfl,hX,h1,e⟩:=h.e
 refine⟨by omega,?_⟩
 show i<((toBl X).length : Int)
 rw [toB_len];exact h1 (by omega)
theorem ShJ.k (h:ShJ t x i L y) (hi:0<i):std.inL (std.rem (mixV y) (std.add i 1)) (std.len L):=by
 have h2:=(h.ix hi).2
 rw [mx_k h.m.lo hi]
 have h1:=sh_b (y:=y) hi
 generalize (mixN y/65536)%(i+1)=z at h1 ⊢
 exact⟨h1.1,by omega⟩
theorem ShJ.s (h:ShJ t x i L y) (hi:0<i):ShJ t x (i-1) (std.set (std.set L i (std.get 0 L (std.rem (mixV y) (std.add i 1)))) (std.rem (mixV y) (std.add i 1)) (std.get 0 L i)) (mixN y):=by
 have hm:=mixN_bd h.m.lo
 have i1:=h.hi
 rw [mx_k h.m.lo hi]
 obtain⟨X,rfl,hX,h1,e⟩:=h.e
 refine⟨⟨hm.1,by omega⟩,by omega,by omega,swp X i.toNat ((mixN y/65536)%(i+1)).toNat,?_,by rw [swp_len];exact hX,fun _=>by rw [swp_len];exact Int.lt_trans (Int.sub_lt_self i (by decide)) (h1 (by omega)),by rw [e,shuf_step hi]⟩
 show ((toBl X).set i.toNat ((toBl X).getD _ 0)).set _ ((toBl X).getD _ 0)=_
 rw [toB_get,toB_get,toB_set,toB_set];rfl
theorem ShJ.z (h:ShJ t x i L y) (hi:i<1):std.toS L=shufL (allT t) x:=by
 obtain⟨X,rfl,hX,h1,e⟩:=h.e
 rw [e,show i.toNat=0 by omega]
 exact toS_toB X
end
def sp_i_ShuffleBag (p:Pr):FSpec:=fsp (ac (aA aTs) (a1 aI)) (fun (t,x)=>TsL t) (fun (t,x)=>.tup [.s (sbS t x),.i .i64 (sbC t x)])
theorem ok_i_ShuffleBag:FOk Tryz.prog 230 (sp_i_ShuffleBag std):=by
 refine FOk.go (c:=cx std [(68,sp_i_ValidTiles std),(72,sp_i_within std),(59,sp_i_allTiles std),(269,sp_i_mixer std)] [(304,sp_i_mixer_1 std)] 0) (cx_ok (.cons ok_i_ValidTiles (.cons ok_i_within (.cons ok_i_allTiles (.cons ok_i_mixer .nil)))) (.cons ok_i_mixer_1 .nil)) mixed Tryz.func230 rfl rfl rfl (by kernel_rfl) ?_
 rintro ⟨t,x⟩ hp
 dsimp only at hp
 refine⟨rfl,?_⟩
 unfold sp_i_ValidTiles sp_i_within sp_i_allTiles sp_i_mixer sp_i_mixer_1
 obtain⟨H,hH⟩ : ∃H:Hd (Int×List Int×Int),H=⟨fun (i,L,y)=>ShJ t x i L y,fun (i,L,y)=>(i+1).toNat,(· < ·)⟩:=⟨_,rfl⟩
 have hl : ∀m n,H.lt m n→m<n:=by subst hH;exact fun _ _ h=>h
 generalize hP:std=p,hB0:tsB=B0,hB1:allT=B1,hB2:shufL=B2,hB3:inR=B3,hB4:sbS=B4,hB5:sbC=B5,hB6:mixN=B6,hB7:mixV=B7
 cbv
 repeat' first
  | (refine fun (_:Unit)=>?_;cbv)
  | (refine Or.inr ⟨24,[],[.s 8 (.i .i64),.o 1 [.i .u8],.c 2 0 (.i .i64)],[],[],H,rfl,hl,?_,fun ((i,L,y):Int×List Int×Int) hk=>?_⟩<;>cbv)
  | (refine aI2 (fun h=>?_) (fun h=>?_)<;>cbv)
  | (refine aI2 ?_ ?_)
 all_goals subst hP hB0 hB1 hB2 hB3 hB4 hB5 hB6 hB7 hH
 all_goals clear hl
 all_goals try dsimp only at hk
 all_goals try dsimp only
 all_goals try exact fin
 all_goals (try simp only [eta_ts] at *)
 all_goals try (have h1:tsB t=true:=by assumption)
 all_goals try (have h2:inR x 0 2147483647=true:=by assumption)
 ·exact (sb_1 h).2.symm
 ·exact (sb_1 h).1.symm
 ·exact (sb_2 h1 h).2.symm
 ·exact (sb_2 h1 h).1.symm
 ·exact sb_tl h1
 all_goals have hn:=sb_len h1
 ·exact in64 (by show _≤((toBl (allT t)).length : Int)-1∧((toBl (allT t)).length : Int)-1≤_;rw [toB_len];omega)
 ·have hx:=in_bd h2
  have e:std.sub (std.len (std.toB (allT t))) 1=((allT t).length : Int)-1:=by show ((toBl (allT t)).length : Int)-1=_;rw [toB_len]
  refine⟨⟨hx.1,hx.2⟩,by show -1≤std.sub (std.len (std.toB (allT t))) 1;rw [e];omega,by show std.sub (std.len (std.toB (allT t))) 1<1000000;rw [e];omega,allT t,rfl,rfl,fun _=>by show std.sub (std.len (std.toB (allT t))) 1<((allT t).length : Int);rw [e];omega,?_⟩
  show shufL (allT t) x=shufG (std.sub (std.len (std.toB (allT t))) 1).toNat x (allT t)
  rw [e]
  unfold shufL
  congr 1
  omega
 all_goals try (have hlt:0<i:=le_t ‹_›)
 all_goals have i0:=hk.lo
 all_goals have i1:=hk.hi
 ·exact hk.m
 ·exact in64 (by show _≤i+1∧i+1≤_;omega)
 ·exact hk.k hlt
 ·exact hk.k hlt
 ·exact hk.ix hlt
 ·exact hk.ix hlt
 ·exact hk.ix hlt
 ·exact hk.ix hlt
 ·have hq:=hk.k hlt
  exact⟨hq.1,by show _<((L.set i.toNat _).length : Int);rw [List.length_set];exact hq.2⟩
 ·have hq:=hk.k hlt
  exact⟨hq.1,by show _<((L.set i.toNat _).length : Int);rw [List.length_set];exact hq.2⟩
 ·exact in64 (by show _≤i-1∧i-1≤_;omega)
 ·exact hk.s hlt
 ·rw [(sb_0 h1 h2).2]
  exact hk.z (le_f ‹_›)
 ·exact (sb_0 h1 h2).1.symm
structure RcQ (r:Rcd):Prop where
 n:(r.acts.length:Int)≤1048576
 a : ∀k:Int,AcQ (acN r k)
def sp_i_ValidRecord (p:Pr):FSpec:=fsp (a1 (aA aRcd)) (fun r=>RcQ r) (fun r=>.b (rcB r))
theorem ok_i_ValidRecord:FOk Tryz.prog 229 (sp_i_ValidRecord std):=by
 refine FOk.go (c:=cx std [(72,sp_i_within std),(268,sp_i_ValidAction std)] [] 0) (cx_ok (.cons ok_i_within (.cons ok_i_ValidAction .nil)) .nil) mixed Tryz.func229 rfl rfl rfl (by kernel_rfl) ?_
 rintro r hp
 refine⟨rfl,?_⟩
 unfold sp_i_within sp_i_ValidAction
 obtain⟨H,hH⟩ : ∃H:Hd (Int),H=⟨fun k=>0≤k∧k≤r.acts.length∧rcB r=rcA (r.acts.drop k.toNat),fun k=>(r.acts.length-k).toNat,(· < ·)⟩:=⟨_,rfl⟩
 have hl : ∀m n,H.lt m n→m<n:=by subst hH;exact fun _ _ h=>h
 generalize hP:std=p,hB0:rcB=B0,hB1:actB=B1,hB2:inR=B2
 cbv
 repeat' first
  | (refine fun (_:Unit)=>?_;cbv)
  | (refine Or.inr ⟨19,[],[.s 18 (.i .i64)],[],[],H,rfl,hl,?_,fun (k:Int) hk=>?_⟩<;>cbv)
  | (refine aI2 (fun h=>?_) (fun h=>?_)<;>cbv)
  | (refine aI2 ?_ ?_)
 all_goals subst hP hB0 hB1 hB2 hH
 all_goals clear hl
 all_goals try dsimp only at hk
 all_goals try dsimp only
 all_goals try exact fin
 all_goals have hn:=hp.n
 all_goals try (have hlt:k<(r.acts.length:Int):=lt_of ‹_›)
 all_goals try (have hge:(r.acts.length:Int)≤k:=ge_of ‹_›)
 all_goals try (obtain⟨q0,q1,q2⟩:=hk)
 ·have hlen:(200:Int)<r.acts.length:=lt_of ‹_›
  unfold rcB rcT
  rw [show decide (r.acts.length≤200)=false from decide_eq_false (by omega),Bool.and_false,Bool.and_false]
 ·have hlen:(r.acts.length:Int)≤200:=ge_of ‹_›
  have hs:inR r.seed 0 2147483647=true:=by assumption
  refine⟨Int.le_refl 0,Int.natCast_nonneg _,?_⟩
  show rcB r=rcA r.acts
  unfold rcB rcT
  rw [hs,show decide (r.acts.length≤200)=true from decide_eq_true (by omega),Bool.and_true,Bool.and_true]
 ·exact hp.a k
 ·rw [q2,rcA_step q0 hlt,show actB (acN r k)=false from by assumption];rfl
 ·refine⟨by show 0≤k+1;omega,by show k+1≤(r.acts.length:Int);omega,?_⟩
  rw [q2,rcA_step q0 hlt,show actB (acN r k)=true from by assumption,Bool.true_and];rfl
 ·rw [q2,rcA_end hge]
 ·unfold rcB rcT
  rw [show inR r.seed 0 2147483647=false from h,Bool.false_and,Bool.and_false]
end Ax
namespace Ax
set_option maxRecDepth 100000
set_option maxHeartbeats 20000000
structure SiL (u:Su) (b:List UInt8):Prop where
 su:SuQ u
 cp:SuC u
 b:b.length≤274877906944
structure SiY (u:Su) (b:List UInt8):Prop where
 q:SiL u b
 c:bgnC u b=0
structure SiN (u:Su) (b:List UInt8):Prop where
 q:SiL u b
 c:bgnC u b≠0
def pil (s:List UInt8):List UInt8:=pileL (countsL s)
section
variable {u:Su} {b:List UInt8}
theorem pil_eq (h:bagB b=true):pil b=isort b:=sort_pile (bagB_tiles h)
theorem all_take {p:UInt8→Bool} {l:List UInt8} (n:Nat) (h:l.all p=true):(l.take n).all p=true:=List.all_eq_true.2 fun x hx=>List.all_eq_true.1 h x (List.mem_of_mem_take hx)
theorem all_drop {p:UInt8→Bool} {l:List UInt8} (n:Nat) (h:l.all p=true):(l.drop n).all p=true:=List.all_eq_true.2 fun x hx=>List.all_eq_true.1 h x (List.mem_of_mem_drop hx)
theorem st_p (h:bagB b=true):StP b:=⟨bagB_tiles h,by have:=bag_len h;omega⟩
theorem st_t (n:Nat) (h:bagB b=true):StP (b.take n):=⟨all_take n (bagB_tiles h),by have:=bag_len h;rw [List.length_take];omega⟩
theorem st_d (n m:Nat) (h:bagB b=true):StP ((b.take n).drop m):=⟨all_drop m (all_take n (bagB_tiles h)),by have:=bag_len h;rw [List.length_drop,List.length_take];omega⟩
theorem rks_p (h:bagB b=true) : [pil (b.take 7),pil ((b.take 14).drop 7)]=sgRks b:=by
 unfold sgRks pil
 rw [sort_pile (all_take 7 (bagB_tiles h)),sort_pile (all_drop 7 (all_take 14 (bagB_tiles h)))]
theorem si3 (h:bgnC u b=0) (h2:std.eqS (pil b) (allT u.ts)=false):False:=sg3 h (by rw [←pil_eq (sg_f h).bg];exact h2)
theorem si5 (h:bgnC u b≠0) (h1:suB u=true) (h2:bagB b=true) (h3:std.eqS (pil b) (allT u.ts)=true) (h4:std.ltI (std.lenS b) 14=false):False:=sg5 h h1 h2 (by rw [←pil_eq h2];exact h3) h4
theorem su_ts (h:suB u=true):tsB u.ts=true:=by
 unfold suB at h
 rw [Bool.and_eq_true] at h
 exact h.1
end
def sp_i_StartGame_y (p:Pr):FSpec:=fsp (ac (aA aSu) (a1 aS)) (fun (u,b)=>SiY u b) (fun (u,b)=>.tup [.agg (gmK ⟨u.ts,u.lex,u.bd,u.secs,u.rule,⟨u.bd.size,u.bd.prem,u.bd.cells⟩,sgBag b,[],[],[],0,0,⟨0,0,⟨0,0,false,[]⟩,[],[],0,0⟩,false⟩ (.osl 0) (.osl 1) (.osl 2) (.osl 3) (.osl 4) (.osl 5)),.i .i64 0]) (fun (u,b)=>[(0,.own [.i .i64] u.ts.values 2),(1,.own [.i .i64] u.ts.counts 2),(2,.own [.s] u.lex 9),(3,.own [.s] (sgRks b) 9),(4,.own [.i .i64] [0,0] 2),(5,.own [.i .i64] [u.secs,u.secs] 2)])
theorem ok_i_StartGame_y:FOk Tryz.prog 9 (sp_i_StartGame_y std):=by
 refine FOk.go (c:=cx std [(12,sp_i_ValidSetup std),(57,sp_i_ValidBag std),(58,sp_i_sorted std),(59,sp_i_allTiles std),(60,sp_i_copySetup std)] [] 0) (cx_ok (.cons ok_i_ValidSetup (.cons ok_i_ValidBag (.cons ok_i_sorted (.cons ok_i_allTiles (.cons ok_i_copySetup .nil))))) .nil) mixed Tryz.func9 rfl rfl rfl (by kernel_rfl) ?_
 rintro ⟨u,b⟩ hp
 dsimp only at hp
 refine⟨rfl,?_⟩
 unfold sp_i_ValidSetup sp_i_ValidBag sp_i_sorted sp_i_allTiles sp_i_copySetup
 generalize hP:std=p,hB0:suB=B0,hB1:bagB=B1,hB2:pileL=B2,hB3:countsL=B3,hB4:allT=B4,hB5:sgBag=B5,hB6:sgRks=B6
 cbv
 repeat' first
  | (refine fun (_:Unit)=>?_;cbv)
  | (refine aI2 (fun h=>?_) (fun h=>?_)<;>cbv)
  | (refine aI2 ?_ ?_)
  | (refine Or.inl (fun (_:Unit)=>?_);cbv)
 all_goals subst hP hB0 hB1 hB2 hB3 hB4 hB5 hB6
 all_goals try (exfalso;exact sg1 hp.c ‹_›)
 all_goals try (exfalso;exact sg2 hp.c ‹_›)
 all_goals try (exfalso;exact si3 hp.c ‹_›)
 all_goals try (exfalso;exact sg4 hp.c ‹_›)
 all_goals try exact fin
 all_goals have hF:=sg_f hp.c
 all_goals have h1:=hF.lo
 all_goals have h2:=hF.hi
 all_goals first
  | exact hp.q.su
  | exact hp.q.cp
  | exact ltM_of hp.q.b
  | exact st_p hF.bg
  | exact st_t 7 hF.bg
  | exact st_d 14 7 hF.bg
  | exact sb_tl (su_ts hF.su)
  | exact congrArg (fun z=>Ob.own [.s] z 9) (rks_p hF.bg)
  | skip
def sp_i_StartGame_n (p:Pr):FSpec:=fsp (ac (aA aSu) (a1 aS)) (fun (u,b)=>SiN u b) (fun (u,b)=>.tup [.agg (gmK gm0 .esl .esl .esl .esl .esl .esl),.i .i64 (bgnC u b)])
theorem ok_i_StartGame_n:FOk Tryz.prog 9 (sp_i_StartGame_n std):=by
 refine FOk.go (c:=cx std [(12,sp_i_ValidSetup std),(57,sp_i_ValidBag std),(58,sp_i_sorted std),(59,sp_i_allTiles std),(60,sp_i_copySetup std)] [] 0) (cx_ok (.cons ok_i_ValidSetup (.cons ok_i_ValidBag (.cons ok_i_sorted (.cons ok_i_allTiles (.cons ok_i_copySetup .nil))))) .nil) mixed Tryz.func9 rfl rfl rfl (by kernel_rfl) ?_
 rintro ⟨u,b⟩ hp
 dsimp only at hp
 refine⟨rfl,?_⟩
 unfold sp_i_ValidSetup sp_i_ValidBag sp_i_sorted sp_i_allTiles sp_i_copySetup
 generalize hP:std=p,hB0:suB=B0,hB1:bagB=B1,hB2:pileL=B2,hB3:countsL=B3,hB4:allT=B4,hB5:bgnC=B5
 cbv
 repeat' first
  | (refine fun (_:Unit)=>?_;cbv)
  | (refine aI2 (fun h=>?_) (fun h=>?_)<;>cbv)
  | (refine aI2 ?_ ?_)
  | (refine Or.inl (fun (_:Unit)=>?_);cbv)
 all_goals subst hP hB0 hB1 hB2 hB3 hB4 hB5
 all_goals try (exfalso;exact si5 hp.c ‹_› ‹_› ‹_› ‹_›)
 all_goals try exact fin
 all_goals first
  | exact hp.q.su
  | exact hp.q.cp
  | exact ltM_of hp.q.b
  | exact st_p ‹_›
  | exact sb_tl (su_ts ‹_›)
  | skip
 ·have h1:suB u=true:=by assumption
  have h2:bagB b=false:=by assumption
  rw [bgnC_std,h1,h2];rfl
 ·have h1:suB u=true:=by assumption
  have h2:bagB b=true:=by assumption
  have h3:std.eqS (pil b) (allT u.ts)=false:=by assumption
  rw [pil_eq h2] at h3
  rw [bgnC_std,h1,h2,h3];rfl
 ·have h1:suB u=true:=by assumption
  have h2:bagB b=true:=by assumption
  have h3:std.eqS (pil b) (allT u.ts)=true:=by assumption
  have h4:std.ltI (std.lenS b) 14=true:=by assumption
  rw [pil_eq h2] at h3
  rw [bgnC_std,h1,h2,h3,h4];rfl
 ·have h1:suB u=false:=by assumption
  rw [bgnC_std,h1];rfl
def sp_i_StartGame (p:Pr):FSpec:=fsp (ac (aA aSu) (a1 aS)) (fun (u,b)=>SiL u b) (fun (u,b)=>.tup [.agg (gmO6 (bgnR u b)),.i .i64 (bgnC u b)]) (fun (u,b)=>gmH6 (bgnR u b))
def spSiN (p:Pr):FSpec:=fsp (ac (aA aSu) (a1 aS)) (fun (u,b)=>SiN u b) (fun (u,b)=>.tup [.agg (gmO6 gm0),.i .i64 (bgnC u b)]) (fun _=>gmH6 gm0)
theorem okSiN:FOk Tryz.prog 9 (spSiN std):=FOk.own ok_i_StartGame_n rfl fun ⟨u,b⟩ w e v h hr=>
 tup_fol (.cons (agg_fol (esl_fol h)) (.cons (fun _ h=>h) .nil)) v hr
theorem ok_i_StartGame:FOk Tryz.prog 9 (sp_i_StartGame std):=FOk.casesE ok_i_StartGame_y okSiN fun ⟨u,b⟩ hp=>by
 by_cases hc:bgnC u b=0
 ·have e:bgnG u b=bgnR u b:=(if_pos hc).symm
  refine .inl ⟨⟨hp,hc⟩,?_,?_⟩
  ·show _=PV.tup [.agg (gmO6 (bgnR u b)),.i .i64 (bgnC u b)]
   rw [hc,←e];rfl
  ·show _=gmH6 (bgnR u b)
   rw [←e];rfl
 ·refine .inr ⟨⟨hp,hc⟩,?_,?_⟩
  ·show _=PV.tup [.agg (gmO6 (bgnR u b)),.i .i64 (bgnC u b)]
   unfold bgnR;rw [if_neg hc]
  ·show _=gmH6 (bgnR u b)
   unfold bgnR;rw [if_neg hc]
def sp_i_StartGameF (p:Pr):FSpec:=fsp (ac (aA aSu) (a1 aS)) (fun (u,b)=>SiL u b) (fun (u,b)=>.tup [.agg (gmR (bgnR u b)),.i .i64 (bgnC u b)])
theorem ok_i_StartGameF:FOk Tryz.prog 9 (sp_i_StartGameF std):=FOk.frz ok_i_StartGame fun ⟨u,b⟩=>by
 refine⟨?_,?_⟩
 ·simp [deep,deeps,AH.get,gmH6,gmO6,gmK,gmR]
 ·simp [PV.idIn,idInL,gmK,gmR]
def sp_i_DoActionF (p:Pr):FSpec:=fsp (ac (aA aGm) (a1 (aA aAc))) (fun (g,a)=>DiP g a) (fun (g,a)=>.tup [.agg (gmR (daR g a)),.i .i64 (daP g a),.i .i64 (daC g a)])
theorem ok_i_DoActionF:FOk Tryz.prog 231 (sp_i_DoActionF std):=FOk.frz ok_i_DoAction fun ⟨g,a⟩=>by
 refine⟨?_,?_⟩
 ·simp [deep,deeps,AH.get,gmH6,gmO6,gmK,gmR]
 ·simp [PV.idIn,idInL,gmK,gmR]
end Ax
end Go.Proofs.YtghmphmbpdiflaaGreatDoor
