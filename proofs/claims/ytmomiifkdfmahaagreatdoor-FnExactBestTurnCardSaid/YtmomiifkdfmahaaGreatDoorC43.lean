/-
  What an action leads to, of the impl package; What an action leads to is no longer than what it began with; Records, of the spec package: bags shuffled, beginnings; Records, of the spec package: which are valid, beginnings, runs; The plain walker: what a function has made may be told as frozen where its first part ends; Records, of the spec package: what they are worth, the best turn.
  Conditions: as each part below says.
-/
import Derived.Test.YtmomiifkdfmahaaGreatDoorC42
import Derived.Test.YtmomiifkdfmahaaGreatDoorC36
import Derived.Test.YtmomiifkdfmahaaGreatDoorC20
import Derived.Test.YtmomiifkdfmahaaGreatDoorC38
set_option linter.unusedSimpArgs false
set_option linter.unusedVariables false
namespace Go.Proofs.YtmomiifkdfmahaaGreatDoor
namespace Ax
set_option maxRecDepth 100000
set_option maxHeartbeats 2000000
def sp_i_DoAction (p:Pr):FSpec:=fsp (ac (aA aGm) (a1 (aA aAc))) (fun (g,a)=>DiP g a) (fun (g,a)=>.tup [.agg (gmO6 (daR g a)),.i .i64 (daP g a),.i .i64 (daC g a)]) (fun (g,a)=>gmH6 (daR g a))
def spDiN (p:Pr):FSpec:=fsp (ac (aA aGm) (a1 (aA aAc))) (fun (g,a)=>DiN g a) (fun (g,a)=>.tup [.agg (gmO6 gm0),.i .i64 0,.i .i64 1]) (fun _=>gmH6 gm0)
theorem okDiN:FOk Tryz.prog 49 (spDiN std):=FOk.own ok_i_DoAction_n rfl fun ⟨g,a⟩ w e u h hr=>
 tup_fol (.cons (agg_fol (esl_fol h)) (.cons (fun _ h=>h) (.cons (fun _ h=>h) .nil))) u hr
theorem ok_i_DoAction:FOk Tryz.prog 49 (sp_i_DoAction std):=FOk.casesE ok_i_DoAction_y okDiN fun ⟨g,a⟩ hp=>by
 by_cases hc:(gameB g&&actB a)=true
 ·have h:=hc
  rw [Bool.and_eq_true] at h
  refine .inl ⟨⟨hp,h.1,h.2⟩,?_,?_⟩
  ·show _=PV.tup [.agg (gmO6 (daR g a)),.i .i64 (daP g a),.i .i64 (daC g a)]
   unfold daR daP daC
   rw [if_pos hc,if_pos hc,if_pos hc]
  ·show _=gmH6 (daR g a)
   unfold daR
   rw [if_pos hc]
 ·refine .inr ⟨⟨hp,by simpa using hc⟩,?_,?_⟩
  ·show _=PV.tup [.agg (gmO6 (daR g a)),.i .i64 (daP g a),.i .i64 (daC g a)]
   unfold daR daP daC
   rw [if_neg hc,if_neg hc,if_neg hc]
  ·show _=gmH6 (daR g a)
   unfold daR
   rw [if_neg hc]
end Ax
end Go.Proofs.YtmomiifkdfmahaaGreatDoor
namespace Go.Proofs.YtmomiifkdfmahaaGreatDoor
namespace Ax
set_option maxRecDepth 100000
set_option maxHeartbeats 2000000
theorem z0:((([]:List UInt8).length : Nat):Int)≤1048576:=by decide
section
variable {g:Gm} {n:Int}
theorem rks_b {i:Nat} {x:List UInt8} (h:WsB 1048576 g.racks) (hx:(x.length:Int)≤1048576):WsB 1048576 (g.racks.set i x):=
 ⟨by rw [List.length_set];exact h.l,fun k=>setg_bd (P:=fun y:List UInt8=>(y.length:Int)≤1048576) (L:=g.racks) (i:=i) (k:=k.toNat) (d:=[]) hx (h.w k)⟩
theorem ckL_b (h:(g.clocks.length:Int)≤1048576):((ckL g n).length : Int)≤1048576:=by unfold ckL;rw [List.length_set];exact h
theorem setSc_b (g:Gm):((setSc g).length : Int)≤1048576:=by show (2:Int)≤_;decide
theorem turnG_b {q:Pl} (h:GmB 1048576 g) (hc:turnC g q n=0) (hw:(q.word.length:Int)≤1048576):GmB 1048576 (turnG g q n):=by
 obtain⟨ha,hG,hC⟩:=sturn_of hc
 have h7:=rack_len hC.rk
 have hb:=h.bag
 have e:GmB 1048576 (turn1 g q n):=by
  refine⟨h.ts,h.lx,h.b0,⟨h.bd.p,?_⟩,?_,rks_b h.rk ?_,?_,ckL_b h.ck,hw,h.bd.c,?_⟩
  ·show ((madeTo g.bd q q.word.length).length : Int)≤_
   rw [made_len];exact h.bd.c
  ·show ((g.bag.drop _).length : Int)≤_
   rw [List.length_drop];omega
  ·rw [isort_length,List.length_append,List.length_take]
   unfold drawN
   omega
  ·show ((g.scores.set _ _).length : Int)≤_
   rw [List.length_set];exact h.sc
  ·show ((g.bag.take _).length : Int)≤_
   rw [List.length_take];omega
 unfold turnG
 split
 ·exact⟨e.ts,e.lx,e.b0,e.bd,e.bag,e.rk,setSc_b _,e.ck,e.wd,e.bf,e.dr⟩
 ·exact e
theorem zeroG_b {k:Int} (h:GmB 1048576 g):GmB 1048576 (zeroG g k n):=by
 unfold zeroG
 split
 ·exact⟨h.ts,h.lx,h.b0,h.bd,h.bag,h.rk,setSc_b _,ckL_b h.ck,z0,z0,z0⟩
 ·exact⟨h.ts,h.lx,h.b0,h.bd,h.bag,h.rk,h.sc,ckL_b h.ck,z0,z0,z0⟩
theorem xtG_b {t:List UInt8} (h:GmB 1048576 g) (hc:exC g.bag (g.rk g.player) t=0):GmB 1048576 (xtG g t):=by
 have h1:=exB_len hc
 have h2:=exR_len hc
 have hb:=h.bag
 exact⟨h.ts,h.lx,h.b0,h.bd,by show ((exB g.bag (g.rk g.player) t).length : Int)≤_;omega,rks_b h.rk (by omega),h.sc,h.ck,h.wd,h.bf,h.dr⟩
theorem chG_b (h:GmB 1048576 g) (hc:chC g n=0):GmB 1048576 (chG g n):=by
 have hF:=chc_of hc
 have hk:=pkf hF.ok
 have h1:=bag_len hk.dr
 have h2:=bag_len hF.sy.ok.bag
 have h3:=ch_rack hF
 unfold chG
 split
 ·refine⟨h.ts,h.lx,h.b0,⟨h.bd.p,h.bf⟩,?_,rks_b (g:=clockG g n) h.rk (by show ((wRack g).length : Int)≤_;omega),?_,ckL_b h.ck,z0,z0,z0⟩
  ·show ((g.last.drawn++g.bag).length : Int)≤_
   rw [List.length_append];omega
  ·show ((wSs (clockG g n)).length : Int)≤_
   unfold wSs
   split
   ·exact setSc_b _
   ·show ((g.scores.set _ _).length : Int)≤_
    rw [List.length_set];exact h.sc
 ·have hs:((rSc (clockG g n) (vPts g)).length : Int)≤1048576:=by
   show ((g.scores.set _ _).length : Int)≤_
   rw [List.length_set];exact h.sc
  have e:GmB 1048576 (rf1 (clockG g n) (vPts g)):=by
   unfold rf1
   refine⟨h.ts,h.lx,h.b0,h.bd,h.bag,h.rk,hs,ckL_b h.ck,?_,?_,?_⟩<;>(dsimp only;split<;>exact z0)
  unfold rfG
  split
  ·exact⟨e.ts,e.lx,e.b0,e.bd,e.bag,e.rk,setSc_b _,e.ck,e.wd,e.bf,e.dr⟩
  ·exact e
theorem doG_b {a:Ac} (h:GmB 1048576 g) (hc:doC g a=0) (hw:(a.play.word.length:Int)≤1048576):GmB 1048576 (doG g a):=by
 unfold doC at hc
 unfold doG
 by_cases h1:a.kind=1
 ·rw [if_pos h1] at hc ⊢
  unfold turnR
  rw [if_pos hc]
  exact turnG_b h hc hw
 ·rw [if_neg h1] at hc ⊢
  by_cases h2:a.kind=2
  ·rw [if_pos h2] at hc ⊢
   unfold xtR
   rw [if_pos hc]
   exact zeroG_b (xtG_b h (xt_act hc).2.2)
  ·rw [if_neg h2] at hc ⊢
   by_cases h3:a.kind=3
   ·rw [if_pos h3] at hc ⊢
    unfold passR
    rw [if_pos hc]
    exact zeroG_b h
   ·rw [if_neg h3] at hc ⊢
    unfold chR
    rw [if_pos hc]
    exact chG_b h hc
end
end Ax
end Go.Proofs.YtmomiifkdfmahaaGreatDoor
namespace Go.Proofs.YtmomiifkdfmahaaGreatDoor
namespace Ax
set_option maxRecDepth 100000
set_option maxHeartbeats 20000000
structure ShP (s:List UInt8) (x:Int):Prop where
 s:s.length≤1000000
 x:0≤x∧x≤2147483647
theorem sh_m {y:Int} (h:0≤y):std.rem (std.add (std.mul y 1103515245) 12345) 2147483648=mixN y:=rem_nn (by show 0≤y*1103515245+12345;omega)
theorem sh_k {y i:Int} (h:0≤y):std.rem (std.quo (mixN y) 65536) (std.add i 1)=(mixN y/65536)%(i+1):=by
 have:=(mixN_bd h).1
 rw [quo_nn this]
 exact rem_nn (by omega)
theorem sh_b {y i:Int} (hi:0<i):0≤(mixN y/65536)%(i+1)∧(mixN y/65536)%(i+1)<i+1:=⟨Int.emod_nonneg _ (by omega),Int.emod_lt_of_pos _ (by omega)⟩
theorem sh_in {y i n:Int} (y0:0≤y) (hi:0<i) (hn:i<n):std.inL (std.rem (std.quo (std.rem (std.add (std.mul y 1103515245) 12345) 2147483648) 65536) (std.add i 1)) n:=by
 rw [sh_m y0,sh_k y0]
 have h:=sh_b (y:=y) hi
 generalize (mixN y/65536)%(i+1)=z at h ⊢
 exact⟨h.1,by omega⟩
def sp_s_l17Shuffle (p:Pr):FSpec:=fsp (ac aS (a1 aI)) (fun (s,x)=>ShP s x) (fun (s,x)=>.s (shufL s x))
theorem ok_s_l17Shuffle:FOk Tryz.prog 39 (sp_s_l17Shuffle std):=by
 refine FOk.go (c:=cx std [] [] 0) (cx_ok .nil .nil) mixed Tryz.func39 rfl rfl rfl (by kernel_rfl) ?_
 rintro ⟨s,x⟩ hp
 dsimp only at hp
 refine⟨rfl,?_⟩
 obtain⟨H,hH⟩ : ∃H:Hd (Int×Int×List Int),H=⟨fun (y,i,L)=>0≤y∧y≤2147483647∧ -1≤i∧i<1000000∧∃X,L=toBl X∧(X.length:Int)=s.length∧(0≤i→i<X.length)∧shufL s x=shufG i.toNat y X,fun (y,i,L)=>(i+1).toNat,(· < ·)⟩:=⟨_,rfl⟩
 have hl : ∀m n,H.lt m n→m<n:=by subst hH;exact fun _ _ h=>h
 generalize hP:std=p
 generalize hB0:shufL=B0
 cbv
 repeat' first
  | (refine fun (_:Unit)=>?_;cbv)
  | (refine Or.inr ⟨16,[],[.s 6 (.i .i64),.s 7 (.i .i64),.o 0 [.i .u8]],[],[],H,rfl,hl,?_,fun ((y,i,L):Int×Int×List Int) hk=>?_⟩<;>cbv)
  | (refine And.intro (fun h=>?_) (fun h=>?_)<;>cbv)
  | (refine And.intro ?_ ?_)
 all_goals subst hP hB0 hH
 all_goals clear hl
 all_goals try dsimp only at hk
 all_goals try dsimp only
 all_goals try exact fin
 ·exact in64 (by show _≤((toBl s).length : Int)-1∧((toBl s).length : Int)-1≤_;rw [toB_len];have:=hp.s;omega)
 ·have h1:=hp.s
  have e:std.sub (std.len (std.toB s)) 1=(s.length:Int)-1:=by show ((toBl s).length : Int)-1=_;rw [toB_len]
  refine⟨hp.x.1,hp.x.2,by show -1≤std.sub (std.len (std.toB s)) 1;rw [e];omega,by show std.sub (std.len (std.toB s)) 1<1000000;rw [e];omega,s,rfl,rfl,fun _=>by show std.sub (std.len (std.toB s)) 1<(s.length:Int);rw [e];omega,?_⟩
  show shufL s x=shufG (std.sub (std.len (std.toB s)) 1).toNat x s
  rw [e]
  unfold shufL
  congr 1
  omega
 all_goals obtain⟨y0,y1,i0,i1,X,rfl,hX,hi,e⟩:=hk
 all_goals try (have hlt:0<i:=lt_of (by assumption))
 all_goals try (have hiX:=hi (by omega);have hkb:=sh_b (y:=y) hlt)
 all_goals try exact (⟨by omega,by show i<((toBl X).length : Int);rw [toB_len];exact hiX⟩:std.inL i (std.len (toBl X)))
 all_goals try exact sh_in y0 hlt (by show i<((toBl X).length : Int);rw [toB_len];exact hiX)
 all_goals try exact sh_in y0 hlt (by show i<(((toBl X).set i.toNat _).length : Int);rw [List.length_set,toB_len];exact hiX)
 ·show 0≤std.rem (std.add (std.mul y 1103515245) 12345) 2147483648∧std.rem (std.add (std.mul y 1103515245) 12345) 2147483648≤2147483647∧ -1≤i-1∧i-1<1000000∧∃Y,std.set (std.set (toBl X) i (std.get 0 (toBl X) (std.rem (std.quo (std.rem (std.add (std.mul y 1103515245) 12345) 2147483648) 65536) (std.add i 1)))) (std.rem (std.quo (std.rem (std.add (std.mul y 1103515245) 12345) 2147483648) 65536) (std.add i 1)) (std.get 0 (toBl X) i)=toBl Y∧(Y.length:Int)=s.length∧(0≤i-1→i-1<(Y.length:Int))∧shufL s x=shufG (i-1).toNat (std.rem (std.add (std.mul y 1103515245) 12345) 2147483648) Y
  rw [sh_m y0,sh_k y0]
  have hm:=mixN_bd y0
  refine⟨hm.1,by omega,by omega,by omega,swp X i.toNat ((mixN y/65536)%(i+1)).toNat,?_,by rw [swp_len];exact hX,fun _=>by rw [swp_len];exact Int.lt_trans (Int.sub_lt_self i (by decide)) hiX,by rw [e,shuf_step hlt]⟩
  show ((toBl X).set i.toNat ((toBl X).getD _ 0)).set _ ((toBl X).getD _ 0)=_
  rw [toB_get,toB_get,toB_set,toB_set];rfl
 ·have : i≤0:=ge_of h
  rw [e,show i.toNat=0 by omega]
  exact toS_toB X
structure SgL (u:Su) (b:List UInt8):Prop where
 su:SuL u
 own:OwnP u
 b:b.length≤274877906944
structure SgY (u:Su) (b:List UInt8):Prop where
 q:SgL u b
 c:bgnC u b=0
structure SgN (u:Su) (b:List UInt8):Prop where
 q:SgL u b
 c:bgnC u b≠0
def sgBag (b:List UInt8):List UInt8:=b.drop 14
def sgRks (b:List UInt8):List (List UInt8):=[isort (b.take 7),isort ((b.take 14).drop 7)]
section
variable {u:Su} {b:List UInt8}
structure SgF (u:Su) (b:List UInt8):Prop where
 su:suB u=true
 bg:bagB b=true
 so:isort b=allT u.ts
 lo:14≤b.length
 hi:b.length≤120
theorem sg_f (h:bgnC u b=0):SgF u b:=by
 unfold bgnC at h
 by_cases h1:(suB u&&bagB b)=true
 ·rw [if_pos h1] at h
  rw [Bool.and_eq_true] at h1
  by_cases h2:isort b=allT u.ts
  ·rw [if_pos h2] at h
   by_cases h3:b.length<14
   ·rw [if_pos h3] at h;exact absurd h (by decide)
   ·exact⟨h1.1,h1.2,h2,by omega,bag_len h1.2⟩
  ·rw [if_neg h2] at h;exact absurd h (by decide)
 ·rw [if_neg h1] at h;exact absurd h (by decide)
theorem sg1 (h:bgnC u b=0) (h2:suB u=false):False:=by have:=(sg_f h).su;rw [h2] at this;cases this
theorem sg2 (h:bgnC u b=0) (h2:bagB b=false):False:=by have:=(sg_f h).bg;rw [h2] at this;cases this
theorem sg3 (h:bgnC u b=0) (h2:std.eqS (isort b) (allT u.ts)=false):False:=by
 have:=(sg_f h).so
 rw [this] at h2
 exact beq_eq_false_iff_ne.1 h2 rfl
theorem sg4 (h:bgnC u b=0) (h2:std.ltI (std.lenS b) 14=true):False:=by
 have:=(sg_f h).lo
 have h3:(b.length:Int)<14:=lt_of h2
 omega
theorem bgnC_std (u:Su) (b:List UInt8):bgnC u b=if suB u&&bagB b then (if std.eqS (isort b) (allT u.ts) then (if std.ltI (std.lenS b) 14 then 6 else 0) else 2) else 1:=by
 unfold bgnC
 have e:(std.ltI (std.lenS b) 14=true)↔b.length<14:=by
  show decide ((b.length:Int)<14)=true↔_
  rw [decide_eq_true_eq];omega
 have e2:(std.eqS (isort b) (allT u.ts)=true)↔isort b=allT u.ts:=beq_iff_eq
 simp only [e,e2]
theorem sg5 (h:bgnC u b≠0) (h1:suB u=true) (h2:bagB b=true) (h3:std.eqS (isort b) (allT u.ts)=true) (h4:std.ltI (std.lenS b) 14=false):False:=by
 apply h
 rw [bgnC_std,h1,h2,h3,h4];rfl
theorem su_all (h:suB u=true):AllP u.ts:=by
 unfold suB at h
 rw [Bool.and_eq_true] at h
 exact (tsB_all h.1).1
end
def sp_s_StartGame_y (p:Pr):FSpec:=fsp (ac (aA aSu) (a1 aS)) (fun (u,b)=>SgY u b) (fun (u,b)=>.tup [.agg (gmK ⟨u.ts,u.lex,u.bd,u.secs,u.rule,⟨u.bd.size,u.bd.prem,u.bd.cells⟩,sgBag b,[],[],[],0,0,⟨0,0,⟨0,0,false,[]⟩,[],[],0,0⟩,false⟩ (.osl 0) (.osl 1) (.osl 2) (.osl 3) (.osl 4) (.osl 5)),.i .i64 0]) (fun (u,b)=>[(0,.own [.i .i64] u.ts.values 2),(1,.own [.i .i64] u.ts.counts 2),(2,.own [.s] u.lex 9),(3,.own [.s] (sgRks b) 9),(4,.own [.i .i64] [0,0] 2),(5,.own [.i .i64] [u.secs,u.secs] 2)])
theorem ok_s_StartGame_y:FOk Tryz.prog 38 (sp_s_StartGame_y std):=by
 refine FOk.go (c:=cx std [(36,sp_s_l18Setup std),(61,sp_s_l17Ok std),(62,sp_s_l03Sort std),(40,sp_s_l02All std),(63,sp_s_l18OwnSetup std)] [] 0) (cx_ok (.cons ok_s_l18Setup (.cons ok_s_l17Ok (.cons ok_s_l03Sort (.cons ok_s_l02All (.cons ok_s_l18OwnSetup .nil))))) .nil) mixed Tryz.func38 rfl rfl rfl (by kernel_rfl) ?_
 rintro ⟨u,b⟩ hp
 dsimp only at hp
 refine⟨rfl,?_⟩
 unfold sp_s_l18Setup sp_s_l17Ok sp_s_l03Sort sp_s_l02All sp_s_l18OwnSetup
 generalize hP:std=p
 generalize hB0:suB=B0
 generalize hB1:bagB=B1
 generalize hB2:isort=B2
 generalize hB3:allT=B3
 generalize hB4:sgBag=B4
 generalize hB5:sgRks=B5
 cbv
 repeat' first
  | (refine fun (_:Unit)=>?_;cbv)
  | (refine And.intro (fun h=>?_) (fun h=>?_)<;>cbv)
  | (refine And.intro ?_ ?_)
  | (refine Or.inl (fun (_:Unit)=>?_);cbv)
 all_goals subst hP hB0 hB1 hB2 hB3 hB4 hB5
 all_goals try (exfalso;exact sg1 hp.c (by assumption))
 all_goals try (exfalso;exact sg2 hp.c (by assumption))
 all_goals try (exfalso;exact sg3 hp.c (by assumption))
 all_goals try (exfalso;exact sg4 hp.c (by assumption))
 all_goals try exact fin
 all_goals have hF:=sg_f hp.c
 all_goals have h1:=hF.lo
 all_goals have h2:=hF.hi
 all_goals first
  | exact hp.q.su
  | exact hp.q.own
  | exact ltM_of hp.q.b
  | exact su_all (by assumption)
  | skip
def sp_s_StartGame_n (p:Pr):FSpec:=fsp (ac (aA aSu) (a1 aS)) (fun (u,b)=>SgN u b) (fun (u,b)=>.tup [.agg (gmK gm0 .esl .esl .esl .esl .esl .esl),.i .i64 (bgnC u b)])
theorem ok_s_StartGame_n:FOk Tryz.prog 38 (sp_s_StartGame_n std):=by
 refine FOk.go (c:=cx std [(36,sp_s_l18Setup std),(61,sp_s_l17Ok std),(62,sp_s_l03Sort std),(40,sp_s_l02All std),(63,sp_s_l18OwnSetup std)] [] 0) (cx_ok (.cons ok_s_l18Setup (.cons ok_s_l17Ok (.cons ok_s_l03Sort (.cons ok_s_l02All (.cons ok_s_l18OwnSetup .nil))))) .nil) mixed Tryz.func38 rfl rfl rfl (by kernel_rfl) ?_
 rintro ⟨u,b⟩ hp
 dsimp only at hp
 refine⟨rfl,?_⟩
 unfold sp_s_l18Setup sp_s_l17Ok sp_s_l03Sort sp_s_l02All sp_s_l18OwnSetup
 generalize hP:std=p
 generalize hB0:suB=B0
 generalize hB1:bagB=B1
 generalize hB2:isort=B2
 generalize hB3:allT=B3
 generalize hB4:bgnC=B4
 cbv
 repeat' first
  | (refine fun (_:Unit)=>?_;cbv)
  | (refine And.intro (fun h=>?_) (fun h=>?_)<;>cbv)
  | (refine And.intro ?_ ?_)
  | (refine Or.inl (fun (_:Unit)=>?_);cbv)
 all_goals subst hP hB0 hB1 hB2 hB3 hB4
 all_goals try (exfalso;exact sg5 hp.c (by assumption) (by assumption) (by assumption) (by assumption))
 all_goals try exact fin
 all_goals first
  | exact hp.q.su
  | exact hp.q.own
  | exact ltM_of hp.q.b
  | exact su_all (by assumption)
  | (rw [bgnC_std];simp only [*]<;>simp;done)
  | skip
end Ax
end Go.Proofs.YtmomiifkdfmahaaGreatDoor
namespace Go.Proofs.YtmomiifkdfmahaaGreatDoor
namespace Ax
set_option maxRecDepth 100000
set_option maxHeartbeats 20000000
structure AcM (a:Ac):Prop where
 w:(a.play.word.length:Int)≤1048576
 t:(a.tiles.length:Int)≤1048576
structure RcL (r:Rcd):Prop where
 n:(r.acts.length:Int)≤1048576
 a : ∀k:Int,AcM (acN r k)
section
variable {r:Rcd} {u:Su} {k:Int}
theorem rcA_step (h0:0≤k) (h:k<r.acts.length):rcA (r.acts.drop k.toNat)=(actB (acN r k)&&rcA (r.acts.drop (k+1).toNat)):=by
 unfold rcA
 rw [dc h0 h (dE shAc)];rfl
theorem rcA_end (h:(r.acts.length:Int)≤k):rcA (r.acts.drop k.toNat)=true:=by
 unfold rcA
 rw [dn h];rfl
theorem acl_of (h:AcM (acN r k)):AcL (acN r k):=⟨by have:=h.w;omega,by have:=h.t;omega⟩
theorem rep_len (c:Int) (x:UInt8) (h:c≤20):(List.replicate c.toNat x).length ≤20:=by rw [List.length_replicate];omega
theorem repT_len : ∀(l:List UInt8) (c:List Int),(∀k:Nat,c.getD k 0≤20)→(repT l c).length ≤20*l.length
 | [],_,_=>by simp [repT]
 | _::_,[],_=>by simp [repT]
 | a::l,x::c,h=>by
   have h1:=repT_len l c fun k=>h (k+1)
   have h2:=rep_len x a (h 0)
   rw [repT,List.length_append,List.length_cons]
   omega
theorem allT_len {t:TS} (h:AllP t):(allT t).length ≤1000:=by
 have h1:=repT_len t.letters t.counts h.hi
 have h2:=rep_len t.blanks 63 (Int.le_trans h.bl (by decide))
 have h3:=h.ok.len
 unfold allT
 rw [List.length_append]
 omega
@[simp] theorem eta_rcd (r:Rcd):Rcd.mk r.seed r.acts=r:=rfl
@[simp] theorem eta_suw (u:Su):Su.mk u.ts u.lex u.bd u.secs u.rule=u:=rfl
end
def sp_s_l20Ok (p:Pr):FSpec:=fsp (a1 (aP aRcd)) (fun r=>RcL r) (fun r=>.b (rcB r))
theorem ok_s_l20Ok:FOk Tryz.prog 37 (sp_s_l20Ok std):=by
 refine FOk.go (c:=cx std [(60,sp_s_l20Action std),(59,sp_s_l00In std)] [] 0) (cx_ok (.cons ok_s_l20Action (.cons ok_s_l00In .nil)) .nil) mixed Tryz.func37 rfl rfl rfl (by kernel_rfl) ?_
 rintro r hp
 refine⟨rfl,?_⟩
 unfold sp_s_l20Action sp_s_l00In
 obtain⟨H,hH⟩ : ∃H:Hd (Int),H=⟨fun k=>0≤k∧k≤r.acts.length∧rcB r=(rcA (r.acts.drop k.toNat)&&rcT r),fun k=>(r.acts.length-k).toNat,(· < ·)⟩:=⟨_,rfl⟩
 have hl : ∀m n,H.lt m n→m<n:=by subst hH;exact fun _ _ h=>h
 generalize hP:std=p
 generalize hB0:rcB=B0
 generalize hB1:actB=B1
 generalize hB2:inR=B2
 cbv
 repeat' first
  | (refine fun (_:Unit)=>?_;cbv)
  | (refine Or.inr ⟨4,[],[.s 3 (.i .i64)],[],[],H,rfl,hl,?_,fun (k:Int) hk=>?_⟩<;>cbv)
  | (refine And.intro (fun h=>?_) (fun h=>?_)<;>cbv)
  | (refine And.intro ?_ ?_)
 all_goals subst hP hB0 hB1 hB2 hH
 all_goals clear hl
 all_goals try dsimp only at hk
 all_goals try dsimp only
 all_goals try exact fin
 ·exact⟨Int.le_refl 0,Int.natCast_nonneg _,rfl⟩
 all_goals obtain⟨q0,q1,q2⟩:=hk
 all_goals have hn:=hp.n
 all_goals try (have hlt:k<(r.acts.length:Int):=lt_of (by assumption))
 ·exact acl_of (hp.a k)
 ·rw [q2,rcA_step q0 hlt,show actB (acN r k)=false from h];rfl
 ·exact in64 (by show _≤k+1∧k+1≤_;omega)
 ·refine⟨by show 0≤k+1;omega,by show k+1≤(r.acts.length:Int);omega,?_⟩
  rw [q2,rcA_step q0 hlt,show actB (acN r k)=true from h,Bool.true_and];rfl
 ·rw [q2,rcA_end (ge_of (by assumption)),Bool.true_and,rcT,show inR r.seed 0 2147483647=true from h,Bool.true_and]
  show decide ((r.acts.length:Int)≤200)=decide (r.acts.length≤200)
  rw [Bool.eq_iff_iff,decide_eq_true_eq,decide_eq_true_eq];omega
 ·rw [q2,rcT,show inR r.seed 0 2147483647=false from h,Bool.false_and,Bool.and_false]
def sp_s_StartGame (p:Pr):FSpec:=fsp (ac (aA aSu) (a1 aS)) (fun (u,b)=>SgL u b) (fun (u,b)=>.tup [.agg (gmO6 (bgnR u b)),.i .i64 (bgnC u b)]) (fun (u,b)=>gmH6 (bgnR u b))
def spSgN (p:Pr):FSpec:=fsp (ac (aA aSu) (a1 aS)) (fun (u,b)=>SgN u b) (fun (u,b)=>.tup [.agg (gmO6 gm0),.i .i64 (bgnC u b)]) (fun _=>gmH6 gm0)
theorem okSgN:FOk Tryz.prog 38 (spSgN std):=FOk.own ok_s_StartGame_n rfl fun ⟨u,b⟩ w e v h hr=>
 tup_fol (.cons (agg_fol (esl_fol h)) (.cons (fun _ h=>h) .nil)) v hr
theorem ok_s_StartGame:FOk Tryz.prog 38 (sp_s_StartGame std):=FOk.casesE ok_s_StartGame_y okSgN fun ⟨u,b⟩ hp=>by
 by_cases hc:bgnC u b=0
 ·have e:bgnG u b=bgnR u b:=(if_pos hc).symm
  refine .inl ⟨⟨hp,hc⟩,?_,?_⟩
  ·show _=PV.tup [.agg (gmO6 (bgnR u b)),.i .i64 (bgnC u b)]
   rw [hc,←e];rfl
  ·show _=gmH6 (bgnR u b)
   rw [←e];rfl
 ·refine .inr ⟨⟨hp,hc⟩,?_,?_⟩
  ·show _=PV.tup [.agg (gmO6 (bgnR u b)),.i .i64 (bgnC u b)]
   unfold bgnR;rw [if_neg hc]
  ·show _=gmH6 (bgnR u b)
   unfold bgnR;rw [if_neg hc]
def sp_s_StartGameF (p:Pr):FSpec:=fsp (ac (aA aSu) (a1 aS)) (fun (u,b)=>SgL u b) (fun (u,b)=>.tup [.agg (gmR (bgnR u b)),.i .i64 (bgnC u b)])
theorem ok_s_StartGameF:FOk Tryz.prog 38 (sp_s_StartGameF std):=FOk.frz ok_s_StartGame fun ⟨u,b⟩=>by
 refine⟨?_,?_⟩
 ·simp [deep,deeps,AH.get,gmH6,gmO6,gmK,gmR]
 ·simp [PV.idIn,idInL,gmK,gmR]
def sp_s_l20DoF (p:Pr):FSpec:=fsp (ac (aA aGm) (a1 (aP aAc))) (fun (g,a)=>DoL g a) (fun (g,a)=>.tup [.agg (gmR (doG g a)),.i .i64 (doP g a),.i .i64 (doC g a)])
theorem ok_s_l20DoF:FOk Tryz.prog 41 (sp_s_l20DoF std):=FOk.frz ok_s_l20Do fun ⟨g,a⟩=>by
 refine⟨?_,?_⟩
 ·simp [deep,deeps,AH.get,gmH6,gmO6,gmK,gmR]
 ·simp [PV.idIn,idInL,gmK,gmR]
def bgR (u:Su) (r:Rcd):Gm:=if bgC u r=0 then bgG u r else gm0
structure BgL (u:Su) (r:Rcd):Prop where
 su:SuL u
 own:OwnP u
 rc:RcL r
theorem bg_1 {u:Su} {r:Rcd} (h:(suB u&&rcB r)=false):bgC u r=1∧bgR u r=gm0:=by
 have e:bgC u r=1:=if_neg (by rw [h];simp)
 exact⟨e,if_neg (by rw [e];decide)⟩
theorem bg_0 {u:Su} {r:Rcd} (h1:suB u=true) (h2:rcB r=true):bgC u r=bgnC u (shufL (allT u.ts) r.seed)∧bgR u r=bgnR u (shufL (allT u.ts) r.seed):=by
 have e:bgC u r=bgnC u (shufL (allT u.ts) r.seed):=if_pos (by rw [h1,h2];rfl)
 refine⟨e,?_⟩
 unfold bgR bgnR
 rw [e];rfl
theorem rc_seed {r:Rcd} (h:rcB r=true):0≤r.seed∧r.seed≤2147483647:=by
 unfold rcB rcT at h
 simp only [Bool.and_eq_true] at h
 exact in_bd h.2.1
def sp_s_l20Start (p:Pr):FSpec:=fsp (ac (aP aSu) (a1 (aP aRcd))) (fun (u,r)=>BgL u r) (fun (u,r)=>.tup [.agg (gmR (bgR u r)),.i .i64 (bgC u r)])
theorem ok_s_l20Start:FOk Tryz.prog 19 (sp_s_l20Start std):=by
 refine FOk.go (c:=cx std [(36,sp_s_l18Setup std),(37,sp_s_l20Ok std),(40,sp_s_l02All std),(39,sp_s_l17Shuffle std),(38,sp_s_StartGameF std)] [] 0) (cx_ok (.cons ok_s_l18Setup (.cons ok_s_l20Ok (.cons ok_s_l02All (.cons ok_s_l17Shuffle (.cons ok_s_StartGameF .nil))))) .nil) mixed Tryz.func19 rfl rfl rfl (by kernel_rfl) ?_
 rintro ⟨u,r⟩ hp
 dsimp only at hp
 refine⟨rfl,?_⟩
 unfold sp_s_l18Setup sp_s_l20Ok sp_s_l02All sp_s_l17Shuffle sp_s_StartGameF
 generalize hP:std=p
 generalize hB0:suB=B0
 generalize hB1:rcB=B1
 generalize hB2:allT=B2
 generalize hB3:shufL=B3
 generalize hB4:bgnR=B4
 generalize hB5:bgnC=B5
 generalize hB6:bgR=B6
 generalize hB7:bgC=B7
 cbv
 repeat' first
  | (refine fun (_:Unit)=>?_;cbv)
  | (refine And.intro (fun h=>?_) (fun h=>?_)<;>cbv)
  | (refine And.intro ?_ ?_)
  | (refine Or.inl (fun (_:Unit)=>?_);cbv)
 all_goals subst hP hB0 hB1 hB2 hB3 hB4 hB5 hB6 hB7
 all_goals try exact fin
 all_goals (try simp only [eta_ts,eta_bd,eta_suw,eta_rcd] at *)
 all_goals first
  | exact hp.su
  | exact hp.rc
  | exact su_all (by assumption)
  | exact (⟨Nat.le_trans (allT_len (su_all (by assumption))) (by decide),rc_seed (by assumption)⟩:ShP (allT u.ts) r.seed)
  | exact (⟨hp.su,hp.own,by rw [shufL_len];exact Nat.le_trans (allT_len (su_all (by assumption))) (by decide)⟩:SgL u (shufL (allT u.ts) r.seed))
  | (rw [(bg_0 (u:=u) (r:=r) (by assumption) (by assumption)).2];done)
  | (rw [(bg_0 (u:=u) (r:=r) (by assumption) (by assumption)).1];done)
  | (rw [(bg_1 (u:=u) (r:=r) (by simp only [*]<;>simp)).2];rfl)
  | (rw [(bg_1 (u:=u) (r:=r) (by simp only [*]<;>simp)).1];done)
  | skip
@[reducible] def shG:List AtTy:=[.s,.r [.i .i64],.r [.i .i64],.i .i64,.r [.s],.i .i64,.s,.s,.i .i64,.i .i64,.i .i64,.s,.s,.s,.r [.s],.r [.i .i64],.r [.i .i64],.i .i64,.i .i64,.i .i64,.i .i64,.i .i64,.i .i64,.b,.s,.s,.s,.i .i64,.i .i64,.b]
def gE (g:Gm):El shG:=(g.ts.letters,g.ts.values,g.ts.counts,g.ts.blanks,g.lex,g.bd0.size,g.bd0.prem,g.bd0.cells,g.secs,g.rule,g.bd.size,g.bd.prem,g.bd.cells,g.bag,g.racks,g.scores,g.clocks,g.player,g.zeros,g.last.kind,g.last.player,g.last.play.row,g.last.play.col,g.last.play.down,g.last.play.word,g.last.before,g.last.drawn,g.last.score,g.last.zeros,g.over)
structure RunJ (g:Gm) (r:Rcd) (k:Int) (L:List (El shG)) (P:List Int) (x:Gm):Prop where
 lo:0≤k
 hi:k≤r.acts.length
 b:GmB 1048576 x
 e:((runR g r.acts).1.map gE=L++(runR x (r.acts.drop k.toNat)).1.map gE)∧((runR g r.acts).2.1=P++(runR x (r.acts.drop k.toNat)).2.1)∧(runR g r.acts).2.2=(runR x (r.acts.drop k.toNat)).2.2
 l:(L.length:Int)=k∧(P.length:Int)=k
structure RunL (g:Gm) (r:Rcd):Prop where
 rc:RcL r
 g:GmB 1048576 g
def ruL (g:Gm) (r:Rcd):List (El shG):=(runR g r.acts).1.map gE
def ruP (g:Gm) (r:Rcd):List Int:=(runR g r.acts).2.1
def ruC (g:Gm) (r:Rcd):Int:=(runR g r.acts).2.2
section
variable {g x:Gm} {r:Rcd} {k:Int} {L:List (El shG)} {P:List Int}
theorem runR_cons (x:Gm) (y:El shAc) (l:List (El shAc)):runR x (y::l)=if doC x (acE y)=0 then (doG x (acE y)::(runR (doG x (acE y)) l).1,doP x (acE y)::(runR (doG x (acE y)) l).2.1,(runR (doG x (acE y)) l).2.2) else ([],[],doC x (acE y)):=by rw [runR]
theorem run_0 (h:RunL g r):RunJ g r 0 [] [] g:=⟨Int.le_refl 0,Int.natCast_nonneg _,h.g,⟨rfl,rfl,rfl⟩,⟨rfl,rfl⟩⟩
theorem run_no (hk:RunJ g r k L P x) (hlt:k<r.acts.length) (hc:doC x (acN r k)≠0):L=ruL g r∧P=ruP g r∧doC x (acN r k)=ruC g r:=by
 obtain⟨e1,e2,e3⟩:=hk.e
 have hc : ¬doC x (acE (r.acts.getD k.toNat (dE shAc)))=0:=hc
 rw [dc hk.lo hlt (dE shAc),runR_cons,if_neg hc] at e1 e2 e3
 exact⟨by unfold ruL;rw [e1];simp,by unfold ruP;rw [e2];simp,by unfold ruC;rw [e3];rfl⟩
theorem run_yes (hk:RunJ g r k L P x) (hlt:k<r.acts.length) (hc:doC x (acN r k)=0) (hr:RcL r):RunJ g r (k+1) (L++[gE (doG x (acN r k))]) (P++[doP x (acN r k)]) (doG x (acN r k)):=by
 obtain⟨e1,e2,e3⟩:=hk.e
 have h0:=hk.lo
 obtain⟨l1,l2⟩:=hk.l
 have hc1:doC x (acE (r.acts.getD k.toNat (dE shAc)))=0:=hc
 rw [dc hk.lo hlt (dE shAc),runR_cons,if_pos hc1] at e1 e2 e3
 refine⟨by omega,by omega,doG_b hk.b hc (hr.a k).w,⟨?_,?_,e3⟩,?_,?_⟩
 ·rw [e1,List.append_assoc];rfl
 ·rw [e2,List.append_assoc];rfl
 ·rw [List.length_append,List.length_singleton];omega
 ·rw [List.length_append,List.length_singleton];omega
theorem run_end (hk:RunJ g r k L P x) (hge:(r.acts.length:Int)≤k):L=ruL g r∧P=ruP g r∧0=ruC g r:=by
 obtain⟨e1,e2,e3⟩:=hk.e
 rw [dn hge] at e1 e2 e3
 exact⟨by unfold ruL;rw [e1];simp [runR],by unfold ruP;rw [e2];simp [runR],by unfold ruC;rw [e3];rfl⟩
theorem run_do (hk:RunJ g r k L P x) (hr:RcL r):DoL x (acN r k):=by
 have hs:=hk.b.s (q:=⟨0,0,false,[]⟩) (by decide) (by decide)
 have h1:=hr.a k
 exact⟨hs.gm,hs.own,by have:=h1.w;omega,by have:=h1.t;omega⟩
end
@[reducible] def ruV:List LV:=LV.s 9 (.i .i64)::LV.o 1 shG::LV.o 2 [.i .i64]::LV.c 0 0 .s ::LV.c 0 1 (.r [.i .i64])::LV.c 0 2 (.r [.i .i64])::LV.c 0 3 (.i .i64)::LV.c 0 4 (.r [.s])::LV.c 0 5 (.i .i64)::LV.c 0 6 .s ::LV.c 0 7 .s ::LV.c 0 8 (.i .i64)::LV.c 0 9 (.i .i64)::LV.c 0 10 (.i .i64)::LV.c 0 11 .s ::LV.c 0 12 .s ::LV.c 0 13 .s ::LV.c 0 14 (.r [.s])::LV.c 0 15 (.r [.i .i64])::LV.c 0 16 (.r [.i .i64])::LV.c 0 17 (.i .i64)::LV.c 0 18 (.i .i64)::LV.c 0 19 (.i .i64)::LV.c 0 20 (.i .i64)::LV.c 0 21 (.i .i64)::LV.c 0 22 (.i .i64)::LV.c 0 23 .b ::LV.c 0 24 .s ::LV.c 0 25 .s ::LV.c 0 26 .s ::LV.c 0 27 (.i .i64)::LV.c 0 28 (.i .i64)::LV.c 0 29 .b ::[]
def sp_s_l20Run (p:Pr):FSpec:=fsp (ac (aA aGm) (a1 (aP aRcd))) (fun (g,r)=>RunL g r) (fun (g,r)=>.tup [.rsl shG (ruL g r),.rsl [.i .i64] (ruP g r),.i .i64 (ruC g r)])
def sp_s_l20Run_o (p:Pr):FSpec:=fsp (ac (aA aGm) (a1 (aP aRcd))) (fun (g,r)=>RunL g r) (fun (g,r)=>.tup [.osl 0,.osl 1,.i .i64 (ruC g r)]) (fun (g,r)=>[(0,.own shG (ruL g r) 61),(1,.own [.i .i64] (ruP g r) 2)])
theorem ok_s_l20Run_o:FOk Tryz.prog 20 (sp_s_l20Run_o std):=by
 refine FOk.go (c:=cx std [(41,sp_s_l20DoF std)] [] 0) (cx_ok (.cons ok_s_l20DoF .nil) .nil) mixed Tryz.func20 rfl rfl rfl (by kernel_rfl) ?_
 rintro ⟨g,r⟩ hp
 dsimp only at hp
 refine⟨rfl,?_⟩
 unfold sp_s_l20DoF
 obtain⟨H,hH⟩ : ∃H:Hd (Int×List (El shG)×List Int×List UInt8×List Int×List Int×Int×List (List UInt8)×Int×List UInt8×List UInt8×Int×Int×Int×List UInt8×List UInt8×List UInt8×List (List UInt8)×List Int×List Int×Int×Int×Int×Int×Int×Int×Bool×List UInt8×List UInt8×List UInt8×Int×Int×Bool),H=⟨fun (k,L,P,x0,x1,x2,x3,x4,x5,x6,x7,x8,x9,x10,x11,x12,x13,x14,x15,x16,x17,x18,x19,x20,x21,x22,x23,x24,x25,x26,x27,x28,x29)=>RunJ g r k L P ⟨⟨x0,x1,x2,x3⟩,x4,⟨x5,x6,x7⟩,x8,x9,⟨x10,x11,x12⟩,x13,x14,x15,x16,x17,x18,⟨x19,x20,⟨x21,x22,x23,x24⟩,x25,x26,x27,x28⟩,x29⟩,fun (k,L,P,x0,x1,x2,x3,x4,x5,x6,x7,x8,x9,x10,x11,x12,x13,x14,x15,x16,x17,x18,x19,x20,x21,x22,x23,x24,x25,x26,x27,x28,x29)=>(r.acts.length-k).toNat,(· < ·)⟩:=⟨_,rfl⟩
 have hl : ∀m n,H.lt m n→m<n:=by subst hH;exact fun _ _ h=>h
 generalize hP:std=p
 generalize hB0:ruL=B0
 generalize hB1:ruP=B1
 generalize hB2:ruC=B2
 generalize hB3:doG=B3
 generalize hB4:doP=B4
 generalize hB5:doC=B5
 cbv
 repeat' first
  | (refine fun (_:Unit)=>?_;cbv)
  | (refine Or.inr ⟨15,[],ruV,[.s 7,.s 8],[],H,rfl,hl,?_,fun ((k,L,P,x0,x1,x2,x3,x4,x5,x6,x7,x8,x9,x10,x11,x12,x13,x14,x15,x16,x17,x18,x19,x20,x21,x22,x23,x24,x25,x26,x27,x28,x29):Int×List (El shG)×List Int×List UInt8×List Int×List Int×Int×List (List UInt8)×Int×List UInt8×List UInt8×Int×Int×Int×List UInt8×List UInt8×List UInt8×List (List UInt8)×List Int×List Int×Int×Int×Int×Int×Int×Int×Bool×List UInt8×List UInt8×List UInt8×Int×Int×Bool) hk=>?_⟩<;>cbv)
  | (refine And.intro (fun h=>?_) (fun h=>?_)<;>cbv)
  | (refine And.intro ?_ ?_)
 all_goals subst hP hB0 hB1 hB2 hB3 hB4 hB5 hH
 all_goals clear hl
 all_goals try dsimp only at hk
 all_goals try dsimp only
 all_goals try exact fin
 ·exact run_0 hp
 all_goals have hn:=hp.rc.n
 all_goals try (have hlt:k<(r.acts.length:Int):=lt_of (by assumption))
 all_goals try (have hge:(r.acts.length:Int)≤k:=ge_of (by assumption))
 all_goals have q0:=hk.lo
 all_goals have q1:=hk.hi
 all_goals have q2:=hk.l
 ·exact⟨q0,hlt⟩
 ·exact run_do hk hp.rc
 ·exact congrArg (fun z=>Ob.own shG z 61) (run_no hk hlt (eqI_f h)).1
 ·exact congrArg (fun z=>Ob.own [.i .i64] z 2) (run_no hk hlt (eqI_f h)).2.1
 ·exact (run_no hk hlt (eqI_f h)).2.2
 ·show (L.length:Int)+1≤274877906944
  omega
 ·show (P.length:Int)+1≤274877906944
  omega
 ·exact in64 (by show _≤k+1∧k+1≤_;omega)
 ·exact run_yes hk hlt (eqI_t h) hp.rc
 ·exact congrArg (fun z=>Ob.own shG z 61) (run_end hk hge).1
 ·exact congrArg (fun z=>Ob.own [.i .i64] z 2) (run_end hk hge).2.1
 ·exact (run_end hk hge).2.2
theorem ok_s_l20Run:FOk Tryz.prog 20 (sp_s_l20Run std):=FOk.frz ok_s_l20Run_o fun ⟨g,r⟩=>⟨by simp [deep,deeps,AH.get],by simp [PV.idIn,idInL]⟩
end Ax
end Go.Proofs.YtmomiifkdfmahaaGreatDoor
namespace Go.Proofs.YtmomiifkdfmahaaGreatDoor
namespace Ax
open Go.RowKit
section
variable {P:Program} {c:Cx} {w w0:World} {e:Env} {fz:Nat→Prop} {M:Root} {st:AS} {a:Act} {f:FuncId}
theorem deeps_map (h:AH) (n:Nat) : ∀l:List PV,deeps h (n+1) l=l.map (deep h n)
 | []=>by unfold deeps;rfl
 | v::r=>by unfold deeps;rw [deeps_map h n r];rfl
theorem idIn_get : ∀{l:List PV} {K:List Nat} {t:Nat} {p:PV},idInL K l=true→l[t]? =some p→p.idIn K=true
 | [],_,_,_,_,h=>by simp at h
 | q::r,K,0,p,hi,h=>by
   unfold idInL at hi
   rw [Bool.and_eq_true] at hi
   simp only [List.getElem?_cons_zero,Option.some.injEq] at h
   exact h ▸ hi.1
 | q::r,K,t+1,p,hi,h=>by
   unfold idInL at hi
   rw [Bool.and_eq_true] at hi
   exact idIn_get hi.2 (by simpa using h)
theorem SR.frozen (h:SR w0 fz M st a w e) (hn:M.n=0) (hM : ∀b,¬M b) (hi:idInL [] (deeps st.h 12 st.tm)=true) : ∃e',SR w0 fz M ⟨deeps st.h 12 st.tm,[],st.nx⟩ a w e':=by
 have hsee:=h.sees
 have hF:Frz w e st.h { e with fz:=fun b=>e.fz b∨w0.heap.size≤b∧b<w.heap.size }:=
  ⟨⟨fun _ h=>h,fun _ _=>rfl,fun _ _=>rfl,fun _ _=>rfl,fun b hb=>.inl hb⟩,fun id o b ho hg hb=>.inr (by
    obtain⟨h1,h2⟩:=h.bd id b ((h.ob id o ho).2.2 hg) hb
    exact⟨h1.resolve_right (hM b),h2⟩)⟩
 have hrn:Rn id [] { e with fz:=fun b=>e.fz b∨w0.heap.size≤b∧b<w.heap.size } ⟨e.adr,e.cap,e.len,fun b=>e.fz b∨w0.heap.size≤b∧b<w.heap.size,fun _=>False,fun _=>False⟩:=⟨fun k hk=>absurd hk (by simp),fun _=>rfl,fun _=>rfl,fun _=>rfl,rfl⟩
 refine⟨⟨e.adr,e.cap,e.len,fun b=>e.fz b∨w0.heap.size≤b∧b<w.heap.size,fun _=>False,fun _=>False⟩,?_,fun t p hp=>?_,fun id o ho=>by simp [AH.get] at ho,fun k hk=>hk.elim,fun k hk=>hk.elim,fun k _ _ hk=>hk.elim,fun k _ hk=>hk.elim,
  ⟨fun b hb=>.inl (h.ez.sub b hb),fun b hb=>hb.elim (h.ez.sup b) .inr,fun k _ hk=>hk.elim⟩,h.fzb,h.low,fun k hk=>absurd hk (by rw [hn];exact Nat.not_lt_zero k),h.defers⟩
 ·show a.tmps.size=(deeps st.h 12 st.tm).length
  rw [deeps_map,List.length_map]
  exact h.size
 ·have hq:=idIn_get hi hp
  have hp:(deeps st.h 12 st.tm)[t]? =some p:=hp
  rw [deeps_map,List.getElem?_map,Option.map_eq_some_iff] at hp
  obtain⟨q,h1,rfl⟩:=hp
  exact R_rn hrn _ _ hq (by rw [rn_id];exact deep_R hsee hF 11 q _ (h.tm t q h1))
def awpZ (c:Cx) (Q:AEx→AS→Prop):Code→AS→Prop
 | .seq x y,st=>awp c x (fun z st'=>match z with
   | .normal =>idInL [] (deeps st'.h 12 st'.tm)=true∧awp c y Q ⟨deeps st'.h 12 st'.tm,[],st'.nx⟩
   | z=>Q z st') st
 | _,_=>False
theorem FOk.goZ {α:Type} {A:Args α} {pre:α→Prop} {v:α→PV} {eff:α→AH} {fn:Func} {body:Code} (hc:CxOk P c) (hm:P.follows .mixedOrders =true) (hf:P.funcs[f]? =some fn) (hb:fn.body=some body) (hn:(fn.name=="runtime.NumGoroutine")=false) (hn0:c.n0=0) (hck:codeOk body=true)
 (h : ∀a,pre a→(idInL [] (A.enc a)&&Nat.ble (A.enc a).length fn.ntmps)=true∧awpZ c (retQ c fn.results.toList ⟨[],v a,eff a⟩) body ⟨A.enc a++List.replicate (fn.ntmps-(A.enc a).length) .dead,[],0⟩):FOk P f (fsp A pre v eff):=by
 refine⟨⟨fn,hf,hn,by rw [hb];rfl⟩,fun args out hs hp w e0 vals hz hl=>?_⟩
 unfold fsp at hs
 split at hs
 case h_2=>cases hs
 rename_i a ha
 cases hs
 obtain⟨h1,h2⟩:=h a (hp _ (by simp))
 rw [A.ok _ _ ha] at hl
 rw [Bool.and_eq_true,Nat.ble_eq] at h1
 have hrn0:Rn id [] e0 { e0 with on:=fun _=>False,lv:=fun _=>False }:=⟨fun k hk=>absurd hk (by simp),fun _=>rfl,fun _=>rfl,fun _=>rfl,rfl⟩
 have hl0:Rs w { e0 with on:=fun _=>False,lv:=fun _=>False } (A.enc a) vals.toList:=Rs_rn hrn0 (A.enc a) _ h1.1 (by rw [rnL_id];exact hl)
 obtain⟨e,he⟩ : ∃e:Env,e={ e0 with on:=fun _=>False,lv:=fun _=>False }:=⟨_,rfl⟩
 rw [←he] at hl0 ⊢
 have hz:FzW w e.fz:=by subst he;exact hz
 have hon : ∀k,¬e.on k:=by subst he;exact fun k h=>h
 have hlv : ∀k,¬e.lv k:=by subst he;exact fun k h=>h
 have hlen:=Rs_length hl0
 obtain⟨M,hM⟩ : ∃M:Root,M=⟨fun b=>∃k,e.on k∧e.blk k b,0,e,[]⟩:=⟨_,rfl⟩
 have hMb : ∀b,¬M b:=fun b=>by subst hM;rintro ⟨k,hk, -⟩;exact hon k hk
 have hMn:M.n=c.n0:=by subst hM;exact hn0.symm
 have hsr:SR w e.fz M ⟨A.enc a++List.replicate (fn.ntmps-(A.enc a).length) .dead,[],0⟩ { tmps:=vals++Array.replicate (fn.ntmps-vals.size) undef,defers:=[] } w e:=by
  have hsz:vals.size=(A.enc a).length :=by rw [←hlen];simp
  refine⟨by simp [hsz],fun t p hp=>tm_args (by simpa using hl0) hp,fun id o h=>by simp [AH.get] at h,fun k hk=>(hlv k hk).elim,fun k hk=>(hon k hk).elim,fun k k' b hk=>(hlv k hk).elim,fun k b hk=>(hlv k hk).elim,⟨fun _ h=>h,fun _ h=>.inl h,fun k b hk=>(hlv k hk).elim⟩,⟨fun b hb=>⟨hz.lt b hb,hMb b⟩,hz.gl⟩,Chg.refl _ _,by subst hM;exact fun k _ hk=>⟨hk,rfl,rfl,rfl⟩,by subst hM;rfl⟩
 have hon' : ∀k,e.on k↔k<([]:AH).length :=fun k=>⟨fun h=>(hon k h).elim,fun h=>absurd h (Nat.not_lt_zero k)⟩
 have hlv' : ∀k,e.lv k↔k<([]:AH).length :=fun k=>⟨fun h=>(hlv k h).elim,fun h=>absurd h (Nat.not_lt_zero k)⟩
 have fin : ∀st1 e1 a1 w1,SR w e.fz M st1 a1 w1 e1→retQ c fn.results.toList ⟨[],v a,eff a⟩ .ret st1→a1.defers=[]∧∃u,(results fn a1.tmps).run P w1=.ok u w1∧∃u' e',Ending.returned u=.returned u'∧Post w w1 e e' 0 ⟨[pre a],v a,eff a⟩ u':=fun st1 e1 a1 w1 g1 g2=>by
  have g2:retQ c fn.results.toList ⟨[pre a],v a,eff a⟩ .ret st1:=g2
  obtain⟨u,e2,g3,g4⟩:=ret_post (D:=[]) hc (H:=[]) (by rw [hn0];rfl) hon' hlv' hM g1 g2
  exact⟨by have:=g1.defers;subst hM;exact this,u,g3,u,e2,rfl,g4⟩
 cases body with
 | seq x y=>
   unfold codeOk at hck
   rw [Bool.and_eq_true] at hck
   refine calls_of_wp hf hb (wp_seq (wp_mono (awp_ok hc hm hMn x hck.1 _ _ _ w _ h2 hsr) ?_))
   intro x' a' w' hq
   cases x' with
   | normal=>
     obtain⟨st',e',g1,hi,g2⟩:=hq
     obtain⟨e2,hs2⟩:=g1.frozen (by rw [hMn,hn0]) hMb hi
     refine wp_mono (awp_ok hc hm hMn y hck.2 _ _ _ w' _ g2 hs2) ?_
     intro x2 a2 w2 hq2
     cases x2 with
     | normal=>obtain⟨st3,e3,g3,g4⟩:=hq2;exact fin st3 e3 a2 w2 g3 g4
     | ret=>obtain⟨st3,e3,g3,g4⟩:=hq2;exact fin st3 e3 a2 w2 g3 g4
     | exit id=>obtain⟨st3,e3,g3,g4⟩:=hq2;exact g4.elim
     | goto l=>exact hq2.elim
     | panic ch=>exact hq2.elim
     | outgrown=>exact hq2.elim
   | ret=>obtain⟨st3,e3,g3,g4⟩:=hq;exact fin st3 e3 a' w' g3 g4
   | exit id=>obtain⟨st3,e3,g3,g4⟩:=hq;exact g4.elim
   | goto l=>exact hq.elim
   | panic ch=>exact hq.elim
   | outgrown=>exact hq.elim
 | _=>exact h2.elim
end
end Ax
end Go.Proofs.YtmomiifkdfmahaaGreatDoor
namespace Go.Proofs.YtmomiifkdfmahaaGreatDoor
namespace Ax
set_option maxRecDepth 100000
set_option maxHeartbeats 20000000
structure SuB (n:Int) (u:Su):Prop where
 ts:TsB n u.ts
 lx:WsB n u.lex
 bd:BdB n u.bd
structure RpL (u:Su) (r:Rcd):Prop where
 su:SuB 1048576 u
 rc:RcL r
section
variable {u:Su} {r:Rcd}
theorem bag_bd (h1:suB u=true) (x:Int):(shufL (allT u.ts) x).length ≤1000:=by
 rw [shufL_len];exact allT_len (su_all h1)
theorem RpL.bg (h:RpL u r):BgL u r:=by
 have h1:=h.su.ts
 have h2:=h.su.lx
 refine⟨⟨ts_l h1 (by decide),⟨?_,fun k=>?_⟩,bd_p h.su.bd (by decide)⟩,⟨?_,?_,?_⟩,h.rc⟩
 ·have:=h2.l;omega
 ·have:=h2.w (k:Int)
  rw [Int.toNat_natCast] at this
  omega
 ·have:=h1.v;omega
 ·have:=h1.c;omega
 ·have:=h2.l;omega
theorem bgn_b {b:List UInt8} (h:SuB 1048576 u) (hb:b.length≤1000):GmB 1048576 (bgnG u b):=by
 refine⟨h.ts,h.lx,h.bd,h.bd,?_,⟨by show ((2:Nat):Int)≤_;decide,fun k=>?_⟩,by show ((2:Nat):Int)≤_;decide,by show ((2:Nat):Int)≤_;decide,z0,z0,z0⟩
 ·show ((b.drop 14).length : Int)≤_
  rw [List.length_drop];omega
 ·have e1:(isort (b.take 7)).length ≤1000:=by rw [isort_length,List.length_take];omega
  have e2:(isort ((b.take 14).drop 7)).length ≤1000:=by rw [isort_length,List.length_drop,List.length_take];omega
  show (([isort (b.take 7),isort ((b.take 14).drop 7)].getD k.toNat []).length : Int)≤_
  rcases hk:k.toNat with _ | _ | n
  ·show ((isort (b.take 7)).length : Int)≤_;omega
  ·show ((isort ((b.take 14).drop 7)).length : Int)≤_;omega
  ·exact z0
theorem bg_su (hc:bgC u r=0):suB u=true:=by
 unfold bgC at hc
 split at hc
 ·rename_i h
  rw [Bool.and_eq_true] at h
  exact h.1
 ·cases hc
theorem bg_eq (hc:bgC u r=0):bgR u r=bgG u r:=if_pos hc
theorem run_l (h:RpL u r) (hc:bgC u r=0):RunL (bgR u r) r:=by
 refine⟨h.rc,?_⟩
 rw [bg_eq hc]
 exact bgn_b h.su (bag_bd (bg_su hc) _)
theorem gE_len {g:Gm} : ((ruL g r).length : Int)=((runR g r.acts).1.length : Int):=by unfold ruL;rw [List.length_map]
end
def bsN (P:List Int):Nat→Int
 | 0=>0
 | n+1=>if P.getD (bsN P n).toNat 0<P.getD (n+1) 0 then ((n+1:Nat):Int) else bsN P n
theorem bsN_bd (P:List Int) : ∀n,0≤bsN P n∧bsN P n≤(n:Int)
 | 0=>⟨Int.le_refl 0,Int.le_refl 0⟩
 | n+1=>by
   have h:=bsN_bd P n
   rw [bsN]
   split<;>omega
def btP (u:Su) (r:Rcd):List Int:=ruP (bgG u r) r
def btC (u:Su) (r:Rcd):Int:=if bgC u r=0 then (if ruC (bgG u r) r=0 then (if btP u r=[] then 3 else 0) else ruC (bgG u r) r) else bgC u r
def btI (u:Su) (r:Rcd):Int:=if btC u r=0 then bsN (btP u r) ((btP u r).length - 1) else 0
def btS (u:Su) (r:Rcd):Int:=if btC u r=0 then (btP u r).getD (btI u r).toNat 0 else 0
section
variable {u:Su} {r:Rcd}
theorem cr_n (h : ¬bgC u r=0):crI u r=0∧crB u r=0:=⟨if_neg h,if_neg h⟩
theorem cr_e (h:bgC u r=0) (h2:ruC (bgR u r) r=0):crI u r= -1∧crB u r=0:=by
 rw [bg_eq h] at h2;exact⟨(if_pos h).trans (if_pos h2),(if_pos h).trans h2⟩
theorem cr_f (h:bgC u r=0) (h2 : ¬ruC (bgR u r) r=0):crI u r=((ruL (bgR u r) r).length : Int)∧crB u r=ruC (bgR u r) r:=by
 rw [bg_eq h] at h2 ⊢;exact⟨(if_pos h).trans ((if_neg h2).trans gE_len.symm),if_pos h⟩
theorem bt_e (h : ¬btC u r=0):btI u r=0∧btS u r=0:=⟨if_neg h,if_neg h⟩
theorem bt_n (h : ¬bgC u r=0):btC u r=bgC u r∧btI u r=0∧btS u r=0:=by
 have e:btC u r=bgC u r:=if_neg h
 exact⟨e,bt_e (by rw [e];exact h)⟩
theorem bt_r (h:bgC u r=0) (h2 : ¬ruC (bgR u r) r=0):btC u r=ruC (bgR u r) r∧btI u r=0∧btS u r=0:=by
 rw [bg_eq h] at h2 ⊢
 have e:btC u r=ruC (bgG u r) r:=(if_pos h).trans (if_neg h2)
 exact⟨e,bt_e (by rw [e];exact h2)⟩
theorem bt_3 (h:bgC u r=0) (h2:ruC (bgR u r) r=0) (h3:((ruP (bgR u r) r).length : Int)=0):btC u r=3∧btI u r=0∧btS u r=0:=by
 rw [bg_eq h] at h2 h3
 have h4:btP u r=[]:=List.length_eq_zero_iff.1 (by unfold btP;omega)
 have e:btC u r=3:=(if_pos h).trans ((if_pos h2).trans (if_pos h4))
 exact⟨e,bt_e (by rw [e];decide)⟩
theorem bt_0 (h:bgC u r=0) (h2:ruC (bgR u r) r=0) (h3 : ¬((ruP (bgR u r) r).length : Int)=0):btC u r=0∧btI u r=bsN (ruP (bgR u r) r) ((ruP (bgR u r) r).length - 1)∧btS u r=(ruP (bgR u r) r).getD (btI u r).toNat 0:=by
 rw [bg_eq h] at h2 h3 ⊢
 have h4 : ¬btP u r=[]:=fun h=>h3 (by have : ruP (bgG u r) r=[]:=h;rw [this];rfl)
 have e:btC u r=0:=(if_pos h).trans ((if_pos h2).trans (if_neg h4))
 exact⟨e,if_pos e,if_pos e⟩
theorem runR_len : ∀(g:Gm) (l:List (El shAc)),(runR g l).2.1.length ≤l.length
 | _,[]=>Nat.le_refl 0
 | g,x::l=>by
   rw [runR_cons]
   split
   ·have:=runR_len (doG g (acE x)) l
    show ((runR (doG g (acE x)) l).2.1.length + 1)≤l.length+1
    omega
   ·exact Nat.zero_le _
theorem ruP_n {g:Gm} (h:RcL r):((ruP g r).length : Int)≤1048576:=by
 have h1:=runR_len g r.acts
 have h2:=h.n
 unfold ruP
 omega
structure BtJ (P:List Int) (b j:Int):Prop where
 lo:1≤j
 hi:j≤P.length
 e:b=bsN P (j-1).toNat
theorem BtJ.b {P:List Int} {b j:Int} (h:BtJ P b j):0≤b∧b<j:=by
 have h1:=bsN_bd P (j-1).toNat
 have:=h.lo
 rw [h.e]
 omega
theorem BtJ.y {P:List Int} {b j:Int} (h:BtJ P b j) (hj:j<P.length) (hg:P.getD b.toNat 0<P.getD j.toNat 0):BtJ P j (j+1):=by
 have h0:=h.lo
 refine⟨by omega,by omega,?_⟩
 obtain⟨n,rfl⟩ : ∃n:Nat,j=(n:Int)+1:=⟨(j-1).toNat,by omega⟩
 have h1:=h.e
 rw [show ((n:Int)+1-1).toNat =n by omega] at h1
 rw [show ((n:Int)+1+1-1).toNat =n+1 by omega,bsN,←h1]
 rw [show ((n:Int)+1).toNat =n+1 by omega] at hg
 rw [if_pos hg];rfl
theorem BtJ.n {P:List Int} {b j:Int} (h:BtJ P b j) (hj:j<P.length) (hg : ¬P.getD b.toNat 0<P.getD j.toNat 0):BtJ P b (j+1):=by
 have h0:=h.lo
 refine⟨by omega,by omega,?_⟩
 obtain⟨n,rfl⟩ : ∃n:Nat,j=(n:Int)+1:=⟨(j-1).toNat,by omega⟩
 have h1:=h.e
 rw [show ((n:Int)+1-1).toNat =n by omega] at h1
 rw [show ((n:Int)+1+1-1).toNat =n+1 by omega,bsN,←h1]
 rw [show ((n:Int)+1).toNat =n+1 by omega] at hg
 rw [if_neg hg]
end
def sp_s_CheckRecord (p:Pr):FSpec:=fsp (ac (aA aSu) (a1 (aA aRcd))) (fun (u,r)=>RpL u r) (fun (u,r)=>.tup [.i .i64 (crI u r),.i .i64 (crB u r),.i .i64 (bgC u r)])
theorem ok_s_CheckRecord:FOk Tryz.prog 7 (sp_s_CheckRecord std):=by
 refine FOk.goZ (c:=cx std [(19,sp_s_l20Start std),(20,sp_s_l20Run std)] [] 0) (cx_ok (.cons ok_s_l20Start (.cons ok_s_l20Run .nil)) .nil) mixed Tryz.func7 rfl rfl rfl (by kernel_rfl) ?_
 rintro ⟨u,r⟩ hp
 dsimp only at hp
 refine⟨rfl,?_⟩
 unfold sp_s_l20Start sp_s_l20Run
 generalize hP:std=p
 generalize hB0:bgR=B0
 generalize hB1:bgC=B1
 generalize hB2:ruL=B2
 generalize hB3:ruP=B3
 generalize hB4:ruC=B4
 generalize hB5:crI=B5
 generalize hB6:crB=B6
 cbv
 repeat' first
  | (refine fun (_:Unit)=>?_;cbv)
  | (refine And.intro (fun h=>?_) (fun h=>?_)<;>cbv)
  | (refine And.intro ?_ ?_)
  | (refine Or.inl (fun (_:Unit)=>?_);cbv)
 all_goals subst hP hB0 hB1 hB2 hB3 hB4 hB5 hB6
 all_goals try exact fin
 all_goals try (have hc:bgC u r=0:=eqI_t (by assumption))
 all_goals try (have hc : ¬bgC u r=0:=eqI_f (by assumption))
 all_goals try (have hr:ruC (bgR u r) r=0:=eqI_t (by assumption))
 all_goals try (have hr : ¬ruC (bgR u r) r=0:=eqI_f (by assumption))
 ·exact hp.bg
 ·exact (cr_n hc).1.symm
 ·exact (cr_n hc).2.symm
 ·exact run_l hp hc
 ·exact (cr_e hc hr).1.symm
 ·exact (cr_e hc hr).2.symm
 ·exact (cr_f hc hr).1.symm
 ·exact (cr_f hc hr).2.symm
def sp_s_BestTurn (p:Pr):FSpec:=fsp (ac (aA aSu) (a1 (aA aRcd))) (fun (u,r)=>RpL u r) (fun (u,r)=>.tup [.i .i64 (btI u r),.i .i64 (btS u r),.i .i64 (btC u r)])
theorem ok_s_BestTurn:FOk Tryz.prog 13 (sp_s_BestTurn std):=by
 refine FOk.goZ (c:=cx std [(19,sp_s_l20Start std),(20,sp_s_l20Run std)] [] 0) (cx_ok (.cons ok_s_l20Start (.cons ok_s_l20Run .nil)) .nil) mixed Tryz.func13 rfl rfl rfl (by kernel_rfl) ?_
 rintro ⟨u,r⟩ hp
 dsimp only at hp
 refine⟨rfl,?_⟩
 unfold sp_s_l20Start sp_s_l20Run
 obtain⟨H,hH⟩ : ∃H:Hd (Int×Int),H=⟨fun (b,j)=>BtJ (ruP (bgR u r) r) b j,fun (b,j)=>((ruP (bgR u r) r).length - j).toNat,(· < ·)⟩:=⟨_,rfl⟩
 have hl : ∀m n,H.lt m n→m<n:=by subst hH;exact fun _ _ h=>h
 generalize hP:std=p
 generalize hB0:bgR=B0
 generalize hB1:bgC=B1
 generalize hB2:ruL=B2
 generalize hB3:ruP=B3
 generalize hB4:ruC=B4
 generalize hB5:btI=B5
 generalize hB6:btS=B6
 generalize hB7:btC=B7
 cbv
 repeat' first
  | (refine fun (_:Unit)=>?_;cbv)
  | (refine Or.inr ⟨33,[],[.s 12 (.i .i64),.s 13 (.i .i64)],[],[],H,rfl,hl,?_,fun ((b,j):Int×Int) hk=>?_⟩<;>cbv)
  | (refine And.intro (fun h=>?_) (fun h=>?_)<;>cbv)
  | (refine And.intro ?_ ?_)
 all_goals subst hP hB0 hB1 hB2 hB3 hB4 hB5 hB6 hB7 hH
 all_goals clear hl
 all_goals try dsimp only at hk
 all_goals try dsimp only
 all_goals try exact fin
 all_goals try (have hc:bgC u r=0:=eqI_t (by assumption))
 all_goals try (have hc : ¬bgC u r=0:=eqI_f (by assumption))
 all_goals try (have hr:ruC (bgR u r) r=0:=eqI_t (by assumption))
 all_goals try (have hr : ¬ruC (bgR u r) r=0:=eqI_f (by assumption))
 all_goals try (have h0:((ruP (bgR u r) r).length : Int)=0:=eqI_t (by assumption))
 all_goals try (have h0 : ¬((ruP (bgR u r) r).length : Int)=0:=eqI_f (by assumption))
 all_goals try (have hlt:j<((ruP (bgR u r) r).length : Int):=lt_of (by assumption))
 all_goals try (have hge:((ruP (bgR u r) r).length : Int)≤j:=ge_of (by assumption))
 all_goals try (have hgt:(ruP (bgR u r) r).getD b.toNat 0<(ruP (bgR u r) r).getD j.toNat 0:=lt_of (by assumption))
 all_goals try (have hgt : ¬(ruP (bgR u r) r).getD b.toNat 0<(ruP (bgR u r) r).getD j.toNat 0:=Int.not_lt.2 (ge_of (by assumption)))
 all_goals try (have hb:=hk.b)
 all_goals try (have hb1:=hk.lo)
 ·exact hp.bg
 ·exact (bt_n hc).2.1.symm
 ·exact (bt_n hc).2.2.symm
 ·exact (bt_n hc).1.symm
 ·exact run_l hp hc
 ·exact (bt_r hc hr).2.1.symm
 ·exact (bt_r hc hr).2.2.symm
 ·exact (bt_r hc hr).1.symm
 ·exact (bt_3 hc hr h0).2.1.symm
 ·exact (bt_3 hc hr h0).2.2.symm
 ·exact (bt_3 hc hr h0).1.symm
 ·exact⟨Int.le_refl 1,by have:=Int.natCast_nonneg (ruP (bgR u r) r).length;omega,rfl⟩
 ·exact⟨by omega,hlt⟩
 ·exact (⟨hb.1,by omega⟩:0≤b∧b<((ruP (bgR u r) r).length : Int))
 all_goals have hq:=ruP_n (g:=bgR u r) hp.rc
 ·exact in64 (by show _≤j+1∧j+1≤_;omega)
 ·exact hk.y hlt hgt
 ·have hx:j<((ruP (bgR u r) r).length : Int):=hlt
  show (((ruP (bgR u r) r).length : Int)-(j+1)).toNat < (((ruP (bgR u r) r).length : Int)-j).toNat
  omega
 ·exact in64 (by show _≤j+1∧j+1≤_;omega)
 ·exact hk.n hlt hgt
 ·have hx:j<((ruP (bgR u r) r).length : Int):=hlt
  show (((ruP (bgR u r) r).length : Int)-(j+1)).toNat < (((ruP (bgR u r) r).length : Int)-j).toNat
  omega
 all_goals have e:=bt_0 hc hr h0
 all_goals have ej:j=((ruP (bgR u r) r).length : Int):=Int.le_antisymm hk.hi hge
 all_goals have eb:b=btI u r:=(by rw [e.2.1,hk.e,ej,show (((ruP (bgR u r) r).length : Int)-1).toNat =(ruP (bgR u r) r).length - 1 by omega])
 ·exact (⟨hb.1,by omega⟩:0≤b∧b<((ruP (bgR u r) r).length : Int))
 ·exact eb
 ·show (ruP (bgR u r) r).getD b.toNat 0=_
  rw [eb]
  exact e.2.2.symm
 ·exact e.1.symm
end Ax
end Go.Proofs.YtmomiifkdfmahaaGreatDoor
