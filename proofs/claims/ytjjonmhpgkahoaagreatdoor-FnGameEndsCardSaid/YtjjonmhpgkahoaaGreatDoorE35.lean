/-
  Records, of the spec package: bags shuffled, beginnings; Records, of the spec package: which are valid, beginnings, runs; The plain walker: a function that defers a call of a closure of its own; the closure's code is walked in place; The plain walker: what a function has made may be told as frozen where its first part ends; Records, of the spec package: what they are worth, the best turn; Drawn setups, plainly: they are valid, and a game begins; Draws with rows that are handed to them; setups drawn: walked.
  Conditions: none; the tables of types and of functions are as the program has them.
-/
import Derived.Test.YtjjonmhpgkahoaaGreatDoorE34
import Derived.Test.YtjjonmhpgkahoaaGreatDoorE27
import Derived.Test.YtjjonmhpgkahoaaGreatDoorE11
import Derived.Defers
import Derived.Test.YtjjonmhpgkahoaaGreatDoorE25
import Derived.Test.YtjjonmhpgkahoaaGreatDoorE26
set_option linter.unusedSimpArgs false
set_option linter.unusedVariables false
namespace Go.Proofs.YtjjonmhpgkahoaaGreatDoor
namespace Ax
set_option maxRecDepth 100000
set_option maxHeartbeats 20000000
structure ShP (s:List UInt8) (x:Int):Prop where
 s:s.length≤1000000
 x:0≤x∧x≤2147483647
theorem sh_m {y:Int} (h:0≤y):std.rem (std.add (std.mul y 1103515245) 12345) 2147483648=mixN y:=rem_nn (by show 0≤y*1103515245+12345;omega)
theorem sh_k {y i:Int} (h:0≤y):std.rem (std.quo (mixN y) 65536) (std.add i 1)=(mixN y/65536)%(i+1):=by
 have:=(mixN_bd h).1
 rw [quo_nn this]
 exact rem_nn (by omega)
theorem sh_b {y i:Int} (hi:0<i):0≤(mixN y/65536)%(i+1)∧(mixN y/65536)%(i+1)<i+1:=⟨Int.emod_nonneg _ (by omega),Int.emod_lt_of_pos _ (by omega)⟩
theorem sh_in {y i n:Int} (y0:0≤y) (hi:0<i) (hn:i<n):std.inL (std.rem (std.quo (std.rem (std.add (std.mul y 1103515245) 12345) 2147483648) 65536) (std.add i 1)) n:=by
 rw [sh_m y0,sh_k y0]
 have h:=sh_b (y:=y) hi
 generalize (mixN y/65536)%(i+1)=z at h ⊢
 exact⟨h.1,by omega⟩
def sp_s_l17Shuffle (p:Pr):FSpec:=fsp (ac aS (a1 aI)) (fun (s,x)=>ShP s x) (fun (s,x)=>.s (shufL s x))
theorem ok_s_l17Shuffle:FOk Tryz.prog 156 (sp_s_l17Shuffle std):=by
 refine FOk.go (c:=cx std [] [] 0) (cx_ok .nil .nil) mixed Tryz.func156 rfl rfl rfl (by kernel_rfl) ?_
 rintro ⟨s,x⟩ hp
 dsimp only at hp
 refine⟨rfl,?_⟩
 obtain⟨H,hH⟩ : ∃H:Hd (Int×Int×List Int),H=⟨fun (y,i,L)=>0≤y∧y≤2147483647∧ -1≤i∧i<1000000∧∃X,L=toBl X∧(X.length:Int)=s.length∧(0≤i→i<X.length)∧shufL s x=shufG i.toNat y X,fun (y,i,L)=>(i+1).toNat,(· < ·)⟩:=⟨_,rfl⟩
 have hl : ∀m n,H.lt m n→m<n:=by subst hH;exact fun _ _ h=>h
 generalize hP:std=p,hB0:shufL=B0
 cbv
 repeat' first
  | (refine fun (_:Unit)=>?_;cbv)
  | (refine Or.inr ⟨16,[],[.s 6 (.i .i64),.s 7 (.i .i64),.o 0 [.i .u8]],[],[],H,rfl,hl,?_,fun ((y,i,L):Int×Int×List Int) hk=>?_⟩<;>cbv)
  | (refine aI2 (fun h=>?_) (fun h=>?_)<;>cbv)
  | (refine aI2 ?_ ?_)
 all_goals subst hP hB0 hH
 all_goals clear hl
 all_goals try dsimp only at hk
 all_goals try dsimp only
 all_goals try exact fin
 ·exact in64 (by show _≤((toBl s).length : Int)-1∧((toBl s).length : Int)-1≤_;rw [toB_len];have:=hp.s;omega)
 ·have h1:=hp.s
  have e:std.sub (std.len (std.toB s)) 1=(s.length:Int)-1:=by show ((toBl s).length : Int)-1=_;rw [toB_len]
  refine⟨hp.x.1,hp.x.2,by show -1≤std.sub (std.len (std.toB s)) 1;rw [e];omega,by show std.sub (std.len (std.toB s)) 1<1000000;rw [e];omega,s,rfl,rfl,fun _=>by show std.sub (std.len (std.toB s)) 1<(s.length:Int);rw [e];omega,?_⟩
  show shufL s x=shufG (std.sub (std.len (std.toB s)) 1).toNat x s
  rw [e]
  unfold shufL
  congr 1
  omega
 all_goals obtain⟨y0,y1,i0,i1,X,rfl,hX,hi,e⟩:=hk
 all_goals try (have hlt:0<i:=lt_of ‹_›)
 all_goals try (have hiX:=hi (by omega);have hkb:=sh_b (y:=y) hlt)
 all_goals try exact (⟨by omega,by show i<((toBl X).length : Int);rw [toB_len];exact hiX⟩:std.inL i (std.len (toBl X)))
 all_goals try exact sh_in y0 hlt (by show i<((toBl X).length : Int);rw [toB_len];exact hiX)
 all_goals try exact sh_in y0 hlt (by show i<(((toBl X).set i.toNat _).length : Int);rw [List.length_set,toB_len];exact hiX)
 ·show 0≤std.rem (std.add (std.mul y 1103515245) 12345) 2147483648∧std.rem (std.add (std.mul y 1103515245) 12345) 2147483648≤2147483647∧ -1≤i-1∧i-1<1000000∧∃Y,std.set (std.set (toBl X) i (std.get 0 (toBl X) (std.rem (std.quo (std.rem (std.add (std.mul y 1103515245) 12345) 2147483648) 65536) (std.add i 1)))) (std.rem (std.quo (std.rem (std.add (std.mul y 1103515245) 12345) 2147483648) 65536) (std.add i 1)) (std.get 0 (toBl X) i)=toBl Y∧(Y.length:Int)=s.length∧(0≤i-1→i-1<(Y.length:Int))∧shufL s x=shufG (i-1).toNat (std.rem (std.add (std.mul y 1103515245) 12345) 2147483648) Y
  rw [sh_m y0,sh_k y0]
  have hm:=mixN_bd y0
  refine⟨hm.1,by omega,by omega,by omega,swp X i.toNat ((mixN y/65536)%(i+1)).toNat,?_,by rw [swp_len];exact hX,fun _=>by rw [swp_len];exact Int.lt_trans (Int.sub_lt_self i (by decide)) hiX,by rw [e,shuf_step hlt]⟩
  show ((toBl X).set i.toNat ((toBl X).getD _ 0)).set _ ((toBl X).getD _ 0)=_
  rw [toB_get,toB_get,toB_set,toB_set];rfl
 ·have : i≤0:=ge_of h
  rw [e,show i.toNat=0 by omega]
  exact toS_toB X
structure SgL (u:Su) (b:List UInt8):Prop where
 su:SuL u
 own:OwnP u
 b:b.length≤274877906944
structure SgY (u:Su) (b:List UInt8):Prop where
 q:SgL u b
 c:bgnC u b=0
structure SgN (u:Su) (b:List UInt8):Prop where
 q:SgL u b
 c:bgnC u b≠0
def sgBag (b:List UInt8):List UInt8:=b.drop 14
def sgRks (b:List UInt8):List (List UInt8):=[isort (b.take 7),isort ((b.take 14).drop 7)]
section
variable {u:Su} {b:List UInt8}
structure SgF (u:Su) (b:List UInt8):Prop where
 su:suB u=true
 bg:bagB b=true
 so:isort b=allT u.ts
 lo:14≤b.length
 hi:b.length≤120
theorem sg_f (h:bgnC u b=0):SgF u b:=by
 unfold bgnC at h
 by_cases h1:(suB u&&bagB b)=true
 ·rw [if_pos h1] at h
  rw [Bool.and_eq_true] at h1
  by_cases h2:isort b=allT u.ts
  ·rw [if_pos h2] at h
   by_cases h3:b.length<14
   ·rw [if_pos h3] at h;exact absurd h (by decide)
   ·exact⟨h1.1,h1.2,h2,by omega,bag_len h1.2⟩
  ·rw [if_neg h2] at h;exact absurd h (by decide)
 ·rw [if_neg h1] at h;exact absurd h (by decide)
theorem sg1 (h:bgnC u b=0) (h2:suB u=false):False:=by have:=(sg_f h).su;rw [h2] at this;cases this
theorem sg2 (h:bgnC u b=0) (h2:bagB b=false):False:=by have:=(sg_f h).bg;rw [h2] at this;cases this
theorem sg3 (h:bgnC u b=0) (h2:std.eqS (isort b) (allT u.ts)=false):False:=by
 have:=(sg_f h).so
 rw [this] at h2
 exact beq_eq_false_iff_ne.1 h2 rfl
theorem sg4 (h:bgnC u b=0) (h2:std.ltI (std.lenS b) 14=true):False:=by
 have:=(sg_f h).lo
 have h3:(b.length:Int)<14:=lt_of h2
 omega
theorem bgnC_std (u:Su) (b:List UInt8):bgnC u b=if suB u&&bagB b then (if std.eqS (isort b) (allT u.ts) then (if std.ltI (std.lenS b) 14 then 6 else 0) else 2) else 1:=by
 unfold bgnC
 have e:(std.ltI (std.lenS b) 14=true)↔b.length<14:=by
  show decide ((b.length:Int)<14)=true↔_
  rw [decide_eq_true_eq];omega
 have e2:(std.eqS (isort b) (allT u.ts)=true)↔isort b=allT u.ts:=beq_iff_eq
 simp only [e,e2]
theorem sg5 (h:bgnC u b≠0) (h1:suB u=true) (h2:bagB b=true) (h3:std.eqS (isort b) (allT u.ts)=true) (h4:std.ltI (std.lenS b) 14=false):False:=by
 apply h
 rw [bgnC_std,h1,h2,h3,h4];rfl
theorem su_all (h:suB u=true):AllP u.ts:=by
 unfold suB at h
 rw [Bool.and_eq_true] at h
 exact (tsB_all h.1).1
end
def sp_s_StartGame_y (p:Pr):FSpec:=fsp (ac (aA aSu) (a1 aS)) (fun (u,b)=>SgY u b) (fun (u,b)=>.tup [.agg (gmK ⟨u.ts,u.lex,u.bd,u.secs,u.rule,⟨u.bd.size,u.bd.prem,u.bd.cells⟩,sgBag b,[],[],[],0,0,⟨0,0,⟨0,0,false,[]⟩,[],[],0,0⟩,false⟩ (.osl 0) (.osl 1) (.osl 2) (.osl 3) (.osl 4) (.osl 5)),.i .i64 0]) (fun (u,b)=>[(0,.own [.i .i64] u.ts.values 2),(1,.own [.i .i64] u.ts.counts 2),(2,.own [.s] u.lex 9),(3,.own [.s] (sgRks b) 9),(4,.own [.i .i64] [0,0] 2),(5,.own [.i .i64] [u.secs,u.secs] 2)])
theorem ok_s_StartGame_y:FOk Tryz.prog 12 (sp_s_StartGame_y std):=by
 refine FOk.go (c:=cx std [(72,sp_s_l18Setup std),(73,sp_s_l17Ok std),(74,sp_s_l03Sort std),(65,sp_s_l02All std),(75,sp_s_l18OwnSetup std)] [] 0) (cx_ok (.cons ok_s_l18Setup (.cons ok_s_l17Ok (.cons ok_s_l03Sort (.cons ok_s_l02All (.cons ok_s_l18OwnSetup .nil))))) .nil) mixed Tryz.func12 rfl rfl rfl (by kernel_rfl) ?_
 rintro ⟨u,b⟩ hp
 dsimp only at hp
 refine⟨rfl,?_⟩
 unfold sp_s_l18Setup sp_s_l17Ok sp_s_l03Sort sp_s_l02All sp_s_l18OwnSetup
 generalize hP:std=p,hB0:suB=B0,hB1:bagB=B1,hB2:isort=B2,hB3:allT=B3,hB4:sgBag=B4,hB5:sgRks=B5
 cbv
 repeat' first
  | (refine fun (_:Unit)=>?_;cbv)
  | (refine aI2 (fun h=>?_) (fun h=>?_)<;>cbv)
  | (refine aI2 ?_ ?_)
  | (refine Or.inl (fun (_:Unit)=>?_);cbv)
 all_goals subst hP hB0 hB1 hB2 hB3 hB4 hB5
 all_goals try (exfalso;exact sg1 hp.c ‹_›)
 all_goals try (exfalso;exact sg2 hp.c ‹_›)
 all_goals try (exfalso;exact sg3 hp.c ‹_›)
 all_goals try (exfalso;exact sg4 hp.c ‹_›)
 all_goals try exact fin
 all_goals have hF:=sg_f hp.c
 all_goals have h1:=hF.lo
 all_goals have h2:=hF.hi
 all_goals first
  | exact hp.q.su
  | exact hp.q.own
  | exact ltM_of hp.q.b
  | exact su_all ‹_›
  | skip
def sp_s_StartGame_n (p:Pr):FSpec:=fsp (ac (aA aSu) (a1 aS)) (fun (u,b)=>SgN u b) (fun (u,b)=>.tup [.agg (gmK gm0 .esl .esl .esl .esl .esl .esl),.i .i64 (bgnC u b)])
theorem ok_s_StartGame_n:FOk Tryz.prog 12 (sp_s_StartGame_n std):=by
 refine FOk.go (c:=cx std [(72,sp_s_l18Setup std),(73,sp_s_l17Ok std),(74,sp_s_l03Sort std),(65,sp_s_l02All std),(75,sp_s_l18OwnSetup std)] [] 0) (cx_ok (.cons ok_s_l18Setup (.cons ok_s_l17Ok (.cons ok_s_l03Sort (.cons ok_s_l02All (.cons ok_s_l18OwnSetup .nil))))) .nil) mixed Tryz.func12 rfl rfl rfl (by kernel_rfl) ?_
 rintro ⟨u,b⟩ hp
 dsimp only at hp
 refine⟨rfl,?_⟩
 unfold sp_s_l18Setup sp_s_l17Ok sp_s_l03Sort sp_s_l02All sp_s_l18OwnSetup
 generalize hP:std=p,hB0:suB=B0,hB1:bagB=B1,hB2:isort=B2,hB3:allT=B3,hB4:bgnC=B4
 cbv
 repeat' first
  | (refine fun (_:Unit)=>?_;cbv)
  | (refine aI2 (fun h=>?_) (fun h=>?_)<;>cbv)
  | (refine aI2 ?_ ?_)
  | (refine Or.inl (fun (_:Unit)=>?_);cbv)
 all_goals subst hP hB0 hB1 hB2 hB3 hB4
 all_goals try (exfalso;exact sg5 hp.c ‹_› ‹_› ‹_› ‹_›)
 all_goals try exact fin
 all_goals first
  | exact hp.q.su
  | exact hp.q.own
  | exact ltM_of hp.q.b
  | exact su_all ‹_›
  | (rw [bgnC_std];simp only [*]<;>simp;done)
  | skip
end Ax
namespace Ax
set_option maxRecDepth 100000
set_option maxHeartbeats 20000000
section
variable {r:Rcd} {u:Su} {k:Int}
@[simp] theorem eta_rcd (r:Rcd):Rcd.mk r.seed r.acts=r:=rfl
@[simp] theorem eta_suw (u:Su):Su.mk u.ts u.lex u.bd u.secs u.rule=u:=rfl
end
def sp_s_StartGame (p:Pr):FSpec:=fsp (ac (aA aSu) (a1 aS)) (fun (u,b)=>SgL u b) (fun (u,b)=>.tup [.agg (gmO6 (bgnR u b)),.i .i64 (bgnC u b)]) (fun (u,b)=>gmH6 (bgnR u b))
def spSgN (p:Pr):FSpec:=fsp (ac (aA aSu) (a1 aS)) (fun (u,b)=>SgN u b) (fun (u,b)=>.tup [.agg (gmO6 gm0),.i .i64 (bgnC u b)]) (fun _=>gmH6 gm0)
theorem okSgN:FOk Tryz.prog 12 (spSgN std):=FOk.own ok_s_StartGame_n rfl fun ⟨u,b⟩ w e v h hr=>
 tup_fol (.cons (agg_fol (esl_fol h)) (.cons (fun _ h=>h) .nil)) v hr
theorem ok_s_StartGame:FOk Tryz.prog 12 (sp_s_StartGame std):=FOk.casesE ok_s_StartGame_y okSgN fun ⟨u,b⟩ hp=>by
 by_cases hc:bgnC u b=0
 ·have e:bgnG u b=bgnR u b:=(if_pos hc).symm
  refine .inl ⟨⟨hp,hc⟩,?_,?_⟩
  ·show _=PV.tup [.agg (gmO6 (bgnR u b)),.i .i64 (bgnC u b)]
   rw [hc,←e];rfl
  ·show _=gmH6 (bgnR u b)
   rw [←e];rfl
 ·refine .inr ⟨⟨hp,hc⟩,?_,?_⟩
  ·show _=PV.tup [.agg (gmO6 (bgnR u b)),.i .i64 (bgnC u b)]
   unfold bgnR;rw [if_neg hc]
  ·show _=gmH6 (bgnR u b)
   unfold bgnR;rw [if_neg hc]
@[reducible] def shG:List AtTy:=[.s,.r [.i .i64],.r [.i .i64],.i .i64,.r [.s],.i .i64,.s,.s,.i .i64,.i .i64,.i .i64,.s,.s,.s,.r [.s],.r [.i .i64],.r [.i .i64],.i .i64,.i .i64,.i .i64,.i .i64,.i .i64,.i .i64,.b,.s,.s,.s,.i .i64,.i .i64,.b]
section
variable {g x:Gm} {r:Rcd} {k:Int} {L:List (El shG)} {P:List Int}
end
@[reducible] def ruV:List LV:=LV.s 9 (.i .i64)::LV.o 1 shG::LV.o 2 [.i .i64]::LV.c 0 0 .s ::LV.c 0 1 (.r [.i .i64])::LV.c 0 2 (.r [.i .i64])::LV.c 0 3 (.i .i64)::LV.c 0 4 (.r [.s])::LV.c 0 5 (.i .i64)::LV.c 0 6 .s ::LV.c 0 7 .s ::LV.c 0 8 (.i .i64)::LV.c 0 9 (.i .i64)::LV.c 0 10 (.i .i64)::LV.c 0 11 .s ::LV.c 0 12 .s ::LV.c 0 13 .s ::LV.c 0 14 (.r [.s])::LV.c 0 15 (.r [.i .i64])::LV.c 0 16 (.r [.i .i64])::LV.c 0 17 (.i .i64)::LV.c 0 18 (.i .i64)::LV.c 0 19 (.i .i64)::LV.c 0 20 (.i .i64)::LV.c 0 21 (.i .i64)::LV.c 0 22 (.i .i64)::LV.c 0 23 .b ::LV.c 0 24 .s ::LV.c 0 25 .s ::LV.c 0 26 .s ::LV.c 0 27 (.i .i64)::LV.c 0 28 (.i .i64)::LV.c 0 29 .b ::[]
end Ax
namespace Ax
open Go.RowKit
section
variable {P:Program} {c:Cx} {w w' w0:World} {e e':Env} {fz:Nat→Prop} {M:Root} {st st':AS} {a a':Act}
def AEx.of:AEx→Exit
 | .normal =>.normal
 | .exit k=>.exit k
 | .ret =>.ret
end
end Ax
namespace Ax
open Go.RowKit
section
variable {P:Program} {c:Cx} {w w0:World} {e:Env} {fz:Nat→Prop} {M:Root} {st:AS} {a:Act} {f:FuncId}
theorem idIn_get : ∀{l:List PV} {K:List Nat} {t:Nat} {p:PV},idInL K l=true→l[t]? =some p→p.idIn K=true
 | [],_,_,_,_,h=>by simp at h
 | q::r,K,0,p,hi,h=>by
   unfold idInL at hi
   rw [Bool.and_eq_true] at hi
   simp only [List.getElem?_cons_zero,Option.some.injEq] at h
   exact h ▸ hi.1
 | q::r,K,t+1,p,hi,h=>by
   unfold idInL at hi
   rw [Bool.and_eq_true] at hi
   exact idIn_get hi.2 (by simpa using h)
end
end Ax
namespace Ax
set_option maxRecDepth 100000
set_option maxHeartbeats 20000000
structure SuB (n:Int) (u:Su):Prop where
 ts:TsB n u.ts
 lx:WsB n u.lex
 bd:BdB n u.bd
section
variable {u:Su} {r:Rcd}
theorem bgn_b {b:List UInt8} (h:SuB 1048576 u) (hb:b.length≤1000):GmB 1048576 (bgnG u b):=by
 refine⟨h.ts,h.lx,h.bd,h.bd,?_,⟨by show ((2:Nat):Int)≤_;decide,fun k=>?_⟩,by show ((2:Nat):Int)≤_;decide,by show ((2:Nat):Int)≤_;decide,z0,z0,z0⟩
 ·show ((b.drop 14).length : Int)≤_
  rw [List.length_drop];omega
 ·have e1:(isort (b.take 7)).length ≤1000:=by rw [isort_length,List.length_take];omega
  have e2:(isort ((b.take 14).drop 7)).length ≤1000:=by rw [isort_length,List.length_drop,List.length_take];omega
  show (([isort (b.take 7),isort ((b.take 14).drop 7)].getD k.toNat []).length : Int)≤_
  rcases hk:k.toNat with _ | _ | n
  ·show ((isort (b.take 7)).length : Int)≤_;omega
  ·show ((isort ((b.take 14).drop 7)).length : Int)≤_;omega
  ·exact z0
end
section
variable {u:Su} {r:Rcd}
end
end Ax
namespace Ax
set_option maxRecDepth 100000
set_option maxHeartbeats 2000000
structure DrSu (u:Su):Prop where
 ts:u.ts=smallT∨u.ts=aenT∨u.ts=aerT
 lex:u.lex=allW
 bd:u.bd=stdBd 5∨u.bd=stdBd 7∨u.bd=stdBd 9
 secs:0≤u.secs∧u.secs≤36000
 rule:0≤u.rule∧u.rule≤3
theorem all_short:allW.all (fun x=>decide (x.length≤12))=true:=by decide +kernel
theorem all_n:allW.length=60:=by decide +kernel
theorem small_s:isort (allT smallT)=allT smallT:=by decide +kernel
theorem aen_s:isort (allT aenT)=allT aenT:=by decide +kernel
theorem aer_s:isort (allT aerT)=allT aerT:=by decide +kernel
theorem small_t:(allT smallT).all tileB=true:=by decide +kernel
theorem aen_t:(allT aenT).all tileB=true:=by decide +kernel
theorem aer_t:(allT aerT).all tileB=true:=by decide +kernel
theorem std_l5:(stdBd 5).prem.length =25∧(stdBd 5).cells.length =25:=by decide +kernel
theorem std_l7:(stdBd 7).prem.length =49∧(stdBd 7).cells.length =49:=by decide +kernel
theorem std_l9:(stdBd 9).prem.length =81∧(stdBd 9).cells.length =81:=by decide +kernel
section
variable {u:Su} {x:Int}
theorem DrSu.ok (h:DrSu u):suB u=true:=by
 unfold suB
 have h1:tsB u.ts=true:=by rcases h.ts with e | e | e<;>rw [e]<;>first | exact small_ok | exact aen_ok | exact aer_ok
 have h2:bdB u.bd=true∧lettersS u.bd=[]:=by rcases h.bd with e | e | e<;>rw [e]<;>first | exact std_ok5 | exact std_ok7 | exact std_ok9
 rw [h1,h.lex,all_lex,h2.1,h2.2,in_mk h.secs,in_mk h.rule];rfl
theorem DrSu.all (h:DrSu u):isort (allT u.ts)=allT u.ts∧(allT u.ts).all tileB=true∧14≤(allT u.ts).length ∧(allT u.ts).length ≤30:=by
 rcases h.ts with e | e | e<;>rw [e]
 ·exact⟨small_s,small_t,by rw [small_len];decide,by rw [small_len];decide⟩
 ·exact⟨aen_s,aen_t,by rw [aen_len];decide,by rw [aen_len];decide⟩
 ·exact⟨aer_s,aer_t,by rw [aer_len];decide,by rw [aer_len];decide⟩
theorem DrSu.b (h:DrSu u):SuB 1048576 u:=by
 refine⟨?_,?_,?_⟩
 ·rcases h.ts with e | e | e<;>rw [e]<;>exact⟨by decide,by decide,by decide⟩
 ·rw [h.lex]
  refine⟨by rw [all_n];decide,fun k=>?_⟩
  rw [List.getD_eq_getElem?_getD]
  cases hk:allW[k.toNat]? with
  | none=>exact (by decide:((0:Nat):Int)≤1048576)
  | some y=>
    have h1:=List.all_eq_true.1 all_short y (List.mem_of_getElem? hk)
    have h2:y.length≤12:=of_decide_eq_true h1
    show ((y.length:Nat):Int)≤1048576
    omega
 ·rcases h.bd with e | e | e<;>rw [e]
  ·exact⟨by rw [std_l5.1];decide,by rw [std_l5.2];decide⟩
  ·exact⟨by rw [std_l7.1];decide,by rw [std_l7.2];decide⟩
  ·exact⟨by rw [std_l9.1];decide,by rw [std_l9.2];decide⟩
theorem DrSu.bgn (h:DrSu u) (hx:0≤x):bgnC u (shufL (allT u.ts) x)=0:=by
 obtain⟨h1,h2,h3,h4⟩:=h.all
 have h5:bagB (shufL (allT u.ts) x)=true:=by
  unfold bagB
  rw [shufL_all hx h2,shufL_len,decide_eq_true (by omega)];rfl
 unfold bgnC
 rw [if_pos (by rw [h.ok,h5];rfl),if_pos (by rw [←h1];exact isort_perm fun c=>by rw [shufL_count hx,isort_count]),if_neg (by rw [shufL_len];omega)]
end
end Ax
namespace Ax
set_option maxRecDepth 100000
set_option maxHeartbeats 2000000
def srT:Nat×Ob→Option Src
 | (0,.cells [.rsl [.i .u8] c,.i .i64 a,.i .u64 s] t)=>if t=159 then some ⟨c,a,s⟩ else none
 | _=>none
theorem srT_ok {x:Nat×Ob} {σ:Src} (h:srT x=some σ):x=(0,.cells (srK σ) 159):=by
 unfold srT at h
 split at h
 ·split at h
  ·rename_i ht
   cases h
   rw [ht];rfl
  ·cases h
 ·cases h
def mSN:MArgs (Src×List Int):=⟨fun H l=>match H,l with
 | [x,y],[.ptr 0 0,.osl 1]=>match srT x,hN y with
   | some σ,some (1,L)=>some (σ,L)
   | _,_=>none
 | _,_=>none,fun a=>[(0,.cells (srK a.1) 159),(1,.own [.i .i64] a.2 2)],fun _=>[.ptr 0 0,.osl 1],fun H l a h=>by
   split at h
   ·split at h
    ·rename_i h0 h1
     cases h
     exact⟨by rw [srT_ok h0,hN_ok h1],rfl⟩
    ·cases h
   ·cases h⟩
def mSW:MArgs (Src×List (List UInt8)):=⟨fun H l=>match H,l with
 | [x,y],[.ptr 0 0,.osl 1]=>match srT x,hW y with
   | some σ,some (1,L)=>some (σ,L)
   | _,_=>none
 | _,_=>none,fun a=>[(0,.cells (srK a.1) 159),(1,.own [.s] a.2 9)],fun _=>[.ptr 0 0,.osl 1],fun H l a h=>by
   split at h
   ·split at h
    ·rename_i h0 h1
     cases h
     exact⟨by rw [srT_ok h0,hW_ok h1],rfl⟩
    ·cases h
   ·cases h⟩
def sp_amongO (p:Pr):MSpec:=msp mSN (fun (σ,l)=>SrOk 999999999000 σ∧1≤(l.length:Int)∧(l.length:Int)≤1048576) (fun (σ,l)=>.i .i64 (amV σ l)) (fun (σ,l)=>[(0,.cells (srK (pkS σ l.length)) 159),(1,.own [.i .i64] l 2)])
theorem ok_amongO:MOk Tryz.prog 66 (sp_amongO std):=by
 refine MOk.go (c:=cx std [] [(64,sp_s_xl00Src_pick std)] 2) (cx_ok .nil (.cons ok_s_xl00Src_pick .nil)) mixed Tryz.func66 rfl rfl (by kernel_rfl) ?_
 rintro ⟨σ,l⟩ hp
 dsimp only at hp
 refine⟨rfl,?_⟩
 unfold sp_s_xl00Src_pick
 generalize hP:std=p,hB0:amV=B0,hB1:pkV=B1,hB2:pkS=B2
 cbv
 repeat' first
  | (refine fun (_:Unit)=>?_;cbv)
  | (refine aI2 (fun h=>?_) (fun h=>?_)<;>cbv)
  | (refine aI2 ?_ ?_)
  | (refine Or.inl (fun (_:Unit)=>?_);cbv)
 all_goals subst hP hB0 hB1 hB2
 all_goals try exact fin
 all_goals exact⟨(pk_bd hp.1).1,(pk_bd hp.1).2.1 hp.2.1⟩
def sp_textO (p:Pr):MSpec:=msp mSW (fun (σ,l)=>SrOk 999999999000 σ∧1≤(l.length:Int)∧(l.length:Int)≤1048576) (fun (σ,l)=>.s (txV σ l)) (fun (σ,l)=>[(0,.cells (srK (pkS σ l.length)) 159),(1,.own [.s] l 9)])
theorem ok_textO:MOk Tryz.prog 193 (sp_textO std):=by
 refine MOk.go (c:=cx std [] [(64,sp_s_xl00Src_pick std)] 2) (cx_ok .nil (.cons ok_s_xl00Src_pick .nil)) mixed Tryz.func193 rfl rfl (by kernel_rfl) ?_
 rintro ⟨σ,l⟩ hp
 dsimp only at hp
 refine⟨rfl,?_⟩
 unfold sp_s_xl00Src_pick
 generalize hP:std=p,hB0:txV=B0,hB1:pkV=B1,hB2:pkS=B2
 cbv
 repeat' first
  | (refine fun (_:Unit)=>?_;cbv)
  | (refine aI2 (fun h=>?_) (fun h=>?_)<;>cbv)
  | (refine aI2 ?_ ?_)
  | (refine Or.inl (fun (_:Unit)=>?_);cbv)
 all_goals subst hP hB0 hB1 hB2
 all_goals try exact fin
 all_goals exact⟨(pk_bd hp.1).1,(pk_bd hp.1).2.1 hp.2.1⟩
@[simp] theorem eta_sr (σ:Src):Src.mk σ.code σ.pos σ.seed=σ:=rfl
def rS {β:Type} (A:Arg β):NRes (Src×β):=⟨fun H l=>match l with
 | [x]=>both' (srOf H) (A.rd x)
 | _=>none,fun a=>srH a.1,fun a=>A.enc a.2⟩
structure far (n:Int) (σ τ:Src):Prop where
 c:τ.code=σ.code
 s : ∀m,SrOk m σ→SrOk (m+n) τ
theorem pk_code (σ:Src) (n:Int):(pkS σ n).code =σ.code:=by
 unfold pkS
 split
 ·rfl
 ·split<;>rfl
theorem far_pk (σ:Src) (n:Int):far 2 σ (pkS σ n):=⟨pk_code σ n,fun _ h=>pk_ok h n⟩
theorem far_tr {a b c:Int} {σ τ υ:Src} (h:far a σ τ) (k:far b τ υ) (hc:a+b≤c):far c σ υ:=⟨k.c.trans h.c,fun m h1=>(k.s _ (h.s _ h1)).le (by omega)⟩
theorem am_in {m:Int} {σ:Src} {l:List Int} (h:SrOk m σ) (hl:1≤(l.length:Int)):amV σ l∈l:=by
 have h1:=pk_bd h (n:=(l.length:Int))
 have h2:=h1.2.1 hl
 have h3:(pkV σ l.length).toNat < l.length:=by omega
 unfold amV
 rw [List.getD_eq_getElem?_getD,List.getElem?_eq_getElem h3]
 exact List.getElem_mem h3
theorem tx_in {m:Int} {σ:Src} {l:List (List UInt8)} (h:SrOk m σ) (hl:1≤(l.length:Int)):txV σ l∈l:=by
 have h1:=pk_bd h (n:=(l.length:Int))
 have h2:=h1.2.1 hl
 have h3:(pkV σ l.length).toNat < l.length:=by omega
 unfold txV
 rw [List.getD_eq_getElem?_getD,List.getElem?_eq_getElem h3]
 exact List.getElem_mem h3
theorem am_sd {m:Int} {σ:Src} (h:SrOk m σ):SdP (amV σ [5,7,9]):=⟨by simpa using am_in (l:=[5,7,9]) h (by decide)⟩
theorem dr_su {m n k:Int} {σ τ υ:Src} (h:SrOk m σ) (h2:SrOk n τ) (h3:SrOk k υ) {t:TS} (ht:t=smallT∨t=aenT∨t=aerT):DrSu ⟨t,allW,stdBd (amV σ [5,7,9]),amV τ [0,60,600,1500],pkV υ 4⟩:=by
 refine⟨ht,rfl,?_,?_,?_⟩
 ·rcases (am_sd h).n with e | e | e
  ·exact .inl (by show stdBd _=_;rw [e])
  ·exact .inr (.inl (by show stdBd _=_;rw [e]))
  ·exact .inr (.inr (by show stdBd _=_;rw [e]))
 ·have h4:amV τ [0,60,600,1500]=0∨amV τ [0,60,600,1500]=60∨amV τ [0,60,600,1500]=600∨amV τ [0,60,600,1500]=1500:=by simpa using am_in (l:=[0,60,600,1500]) h2 (by decide)
  show 0≤amV τ [0,60,600,1500]∧amV τ [0,60,600,1500]≤36000
  omega
 ·have h5:=pk_bd h3 (n:=4)
  have h6:=h5.2.1 (by decide)
  show 0≤pkV υ 4∧pkV υ 4≤3
  omega
theorem far4 (σ:Src) (a b c d:Int):far 20 σ (pkS (pkS (pkS (pkS σ a) b) c) d):=⟨by simp only [pk_code],fun _ h=>(pk_ok (pk_ok (pk_ok (pk_ok h a) b) c) d).le (by omega)⟩
def sp_s_l18DrawSetup (_:Pr):NSpec:=nsp (mS a0) (fun (σ,_u)=>SrOk 999999990000 σ) (fun (σ,_u)=>rS (aA aSu)) (fun (σ,_u) (τ,u)=>far 20 σ τ∧DrSu u)
theorem ok_s_l18DrawSetup:NOk Tryz.prog 62 (sp_s_l18DrawSetup std):=by
 refine NOk.go (c:=cxN std [(153,sp_s_StandardTiles std),(154,sp_s_StandardBoard std),(155,sp_s_l12All std)] [(64,sp_s_xl00Src_pick std),(66,sp_amongO std)] [] 1 (if false then some stdU else none) []) (cxN_ok (.cons ok_s_StandardTiles (.cons ok_s_StandardBoard (.cons ok_s_l12All .nil))) (.cons ok_s_xl00Src_pick (.cons ok_amongO .nil)) .nil) mixed Tryz.func62 rfl rfl (by kernel_rfl) ?_
 rintro ⟨σ,_u⟩ hp
 dsimp only at hp
 refine⟨rfl,?_⟩
 unfold sp_s_StandardTiles sp_s_StandardBoard sp_s_l12All sp_s_xl00Src_pick sp_amongO
 generalize hP:std=p,hB0:pkS=B0,hB1:pkV=B1,hB2:amV=B2,hB3:stdBd=B3,hB4:allW=B4
 cbv
 repeat' first
  | (refine fun (_:Unit)=>?_;cbv)
  | (refine aI2 (fun h=>?_) (fun h=>?_)<;>cbv)
  | (refine aI2 ?_ ?_)
  | (refine Or.inl (fun (_:Unit)=>?_);cbv)
 all_goals subst hP hB0 hB1 hB2 hB3 hB4
 all_goals try exact fin
 all_goals (try simp only [eta_sr,eta_bd] at *)
 all_goals try exact Int.NonNeg.mk _
 all_goals first
  | exact hp.le (by decide)
  | exact (pk_ok hp _).le (by decide)
  | exact (pk_ok (pk_ok hp _) _).le (by decide)
  | exact (pk_ok (pk_ok (pk_ok hp _) _) _).le (by decide)
  | exact far4 σ _ _ _ _
  | exact am_sd (pk_ok hp _)
  | exact dr_su (pk_ok hp _) (pk_ok (pk_ok hp _) _) (pk_ok (pk_ok (pk_ok hp _) _) _) (.inl rfl)
  | exact dr_su (pk_ok hp _) (pk_ok (pk_ok hp _) _) (pk_ok (pk_ok (pk_ok hp _) _) _) (.inr (.inl rfl))
  | exact dr_su (pk_ok hp _) (pk_ok (pk_ok hp _) _) (pk_ok (pk_ok (pk_ok hp _) _) _) (.inr (.inr rfl))
  | skip
def sdB (σ:Src) (u:Su):List UInt8:=shufL (allT u.ts) (pkV σ 60000)
end Ax
end Go.Proofs.YtjjonmhpgkahoaaGreatDoor
