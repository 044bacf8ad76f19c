/-
  What the laws of turns are asked: walked.
  Conditions: none.
-/
import Derived.Test.YtjjonmhpgkahoaaGreatDoorH35
import Derived.Test.YtjjonmhpgkahoaaGreatDoorH19
import Derived.Test.YtjjonmhpgkahoaaGreatDoorH31
import Derived.Test.YtjjonmhpgkahoaaGreatDoorH16
import Derived.Test.YtjjonmhpgkahoaaGreatDoorH36
import Derived.Test.YtjjonmhpgkahoaaGreatDoorH32
set_option linter.unusedSimpArgs false
set_option linter.unusedVariables false
namespace Go.Proofs.YtjjonmhpgkahoaaGreatDoor
namespace Ax
set_option maxRecDepth 100000
set_option maxHeartbeats 20000000
def Ja (σ:Src):Int:=if pkV σ 12=0 then amV (pkS σ 12) [-1,0,36000,36001] else pkV (pkS σ 12) 120
def J7 (σ:Src):Src:=if pkV σ 12=0 then pkS (pkS σ 12) 4 else pkS (pkS σ 12) 120
theorem OK {σ:Src} (h:std.eqI (pkV σ 12) 0=true):Ja σ=amV (pkS σ 12) [-1,0,36000,36001]∧J7 σ=pkS (pkS σ 12) 4:=by
 have h1:pkV σ 12=0:=by simpa using h
 exact⟨if_pos h1,if_pos h1⟩
theorem Pv {σ:Src} (h:std.eqI (pkV σ 12) 0=false):Ja σ=pkV (pkS σ 12) 120∧J7 σ=pkS (pkS σ 12) 120:=by
 have h1 : ¬pkV σ 12=0:=by simpa using h
 exact⟨if_neg h1,if_neg h1⟩
def ke (p:Pr):bX:=msp (mS a0) (fun (σ,_u)=>db 999999900000 σ) (fun (σ,_u)=>.i .i64 (Ja σ)) (fun (σ,_u)=>srH (J7 σ))
theorem vo:MOk Tryz.prog 93 (ke std):=by
 refine MOk.go (c:=cx std [] [(96,aF std),(64,aj std),(66,jy std)] 1) (ae .nil (.cons ct (.cons aL (.cons tU .nil)))) mixed Tryz.func93 rfl rfl (by kernel_rfl) ?_
 rintro ⟨σ,_u⟩ hp
 dsimp only at hp
 refine⟨rfl,?_⟩
 unfold aF aj jy
 generalize hP:std=p,hB0:pkS=B0,hB1:pkV=B1,hB2:amV=B2,hB3:Ja=B3,hB4:J7=B4
 cbv
 repeat' first|refine fun (_:Unit)=>?_;cbv|refine aI2 (fun h=>?_) (fun h=>?_)<;>cbv|refine aI2 ?_ ?_|refine Or.inl (fun (_:Unit)=>?_);cbv
 all_goals subst hP hB0 hB1 hB2 hB3 hB4
 all_goals try exact fin
 all_goals (try simp only [mA] at *)
 all_goals try exact Int.NonNeg.mk _
 all_goals first
  | exact hp.le (by decide)
  | exact (ai hp 12).le (by decide)
  | exact (OK ‹_›).1.symm
  | (rw [(OK ‹_›).2];exact rfl)
  | (rw [(Pv ‹_›).1])
  | (rw [(Pv ‹_›).2])
  | skip
def aY:Arg (List Int):=⟨fun | .rsl [.i .u8] n=>some n | _=>none,.rsl [.i .u8],fun x a h=>by split at h<;>cases h;rfl⟩
structure CdP (l:List Int):Prop where
 b : ∀x∈l,0≤x∧x≤255
 n:(l.length:Int)≤1048576
theorem CdP.s {l:List Int} {n:Int} (h:CdP l) (hn:0≤n):db n ⟨l,0,0⟩:=⟨Int.le_refl 0,hn,h.n,h.b⟩
theorem BeB.gl {g:Gm} (h:BeB g):GmL g:=(h.b.s (q:=⟨0,0,false,[]⟩) (by decide) (by decide)).gm
theorem BeB.gp {g:Gm} (h:BeB g):GmP g:=(h.b.s (q:=⟨0,0,false,[]⟩) (by decide) (by decide)).own
def im (p:Pr):aa:=fsp (a1 aY) (fun code=>True) (fun code=>.ptr 0 0) (fun code=>srH ⟨code,0,0⟩)
theorem tz:FOk Tryz.prog 61 (im std):=by
 refine FOk.go (c:=cx std [] [] 0) (ae .nil .nil) mixed Tryz.func61 rfl rfl rfl (by kernel_rfl) ?_
 rintro code hp
 refine⟨rfl,?_⟩
 generalize hP:std=p
 cbv
 repeat' first|refine fun (_:Unit)=>?_;cbv|refine aI2 (fun h=>?_) (fun h=>?_)<;>cbv|refine aI2 ?_ ?_|refine Or.inl (fun (_:Unit)=>?_);cbv
 all_goals subst hP
 all_goals try exact fin
def rGI:qw (Gm×Int):=⟨fun _ l=>match l with
 | [.agg c,.i .i64 n]=>hZ (Dp c) (some n)
 | _=>none,fun _=>[],fun a=>.tup [.agg (gmR a.1),.i .i64 a.2]⟩
set_option maxHeartbeats 2000000
def iJ (p:Pr):aa:=fsp (ac aN (a1 aN)) (fun (a,b)=>p.leP (p.len a) 1073741824) (fun (a,b)=>.b (qeN a b))
theorem rO:FOk Tryz.prog 78 (iJ std):=by
 refine FOk.go (c:=cx std [] [] 0) (ae .nil .nil) mixed Tryz.func78 rfl rfl rfl (by kernel_rfl) ?_
 rintro ⟨a,b⟩ hp
 dsimp only at hp
 refine⟨rfl,?_⟩
 obtain⟨H,hH⟩ : ∃H:Hd (Int),H=⟨fun k=>0≤k∧k≤a.length∧a.length=b.length∧a.take k.toNat=b.take k.toNat,fun k=>(a.length-k).toNat,(· < ·)⟩:=⟨_,rfl⟩
 have hl:=hdl hH
 generalize hP:std=p,hB0:qeN=B0
 cbv
 repeat' first|refine fun (_:Unit)=>?_;cbv|refine Or.inr ⟨11,[],[.s 5 (.i .i64)],[],[],H,rfl,hl,?_,fun (k:Int) hk=>?_⟩<;>cbv|refine aI2 (fun h=>?_) (fun h=>?_)<;>cbv|refine aI2 ?_ ?_
 all_goals subst hP hB0 hH
 all_goals clear hl
 all_goals try dsimp only at hk
 all_goals try dsimp only
 all_goals try exact fin
 ·show (a==b)=false
  exact beq_eq_false_iff_ne.2 fun e=>beq_eq_false_iff_ne.1 (show ((a.length:Int)==(b.length:Int))=false from h) (by rw [e])
 all_goals obtain⟨q0,q1,q2,q3⟩:=hk
 ·show (a==b)=false
  exact beq_eq_false_iff_ne.2 (Hi (d:=0) (k:=k) (beq_eq_false_iff_ne.1 (show (a.getD k.toNat 0==b.getD k.toNat 0)=false from h)))
 ·have hlt:k<(a.length:Int):=ah ‹_›
  exact⟨by show 0≤k+1;omega,by show k+1≤(a.length:Int);omega,q2,FK q0 hlt q2 q3 (beq_iff_eq.1 (show (a.getD k.toNat 0==b.getD k.toNat 0)=true from h))⟩
 ·show (a==b)=true
  exact beq_iff_eq.2 (F7 (ao h) q2 q3)
def iZ (p:Pr):aa:=fsp (ac aW (a1 aW)) (fun (a,b)=>p.leP (p.len a) 1073741824) (fun (a,b)=>.b (qeW a b))
theorem r9:FOk Tryz.prog 77 (iZ std):=by
 refine FOk.go (c:=cx std [] [] 0) (ae .nil .nil) mixed Tryz.func77 rfl rfl rfl (by kernel_rfl) ?_
 rintro ⟨a,b⟩ hp
 dsimp only at hp
 refine⟨rfl,?_⟩
 obtain⟨H,hH⟩ : ∃H:Hd (Int),H=⟨fun k=>0≤k∧k≤a.length∧a.length=b.length∧a.take k.toNat=b.take k.toNat,fun k=>(a.length-k).toNat,(· < ·)⟩:=⟨_,rfl⟩
 have hl:=hdl hH
 generalize hP:std=p,hB0:qeW=B0
 cbv
 repeat' first|refine fun (_:Unit)=>?_;cbv|refine Or.inr ⟨11,[],[.s 5 (.i .i64)],[],[],H,rfl,hl,?_,fun (k:Int) hk=>?_⟩<;>cbv|refine aI2 (fun h=>?_) (fun h=>?_)<;>cbv|refine aI2 ?_ ?_
 all_goals subst hP hB0 hH
 all_goals clear hl
 all_goals try dsimp only at hk
 all_goals try dsimp only
 all_goals try exact fin
 ·show (a==b)=false
  exact beq_eq_false_iff_ne.2 fun e=>beq_eq_false_iff_ne.1 (show ((a.length:Int)==(b.length:Int))=false from h) (by rw [e])
 all_goals obtain⟨q0,q1,q2,q3⟩:=hk
 ·show (a==b)=false
  exact beq_eq_false_iff_ne.2 (Hi (d:=[]) (k:=k) (beq_eq_false_iff_ne.1 (show (a.getD k.toNat []==b.getD k.toNat [])=false from h)))
 ·have hlt:k<(a.length:Int):=ah ‹_›
  exact⟨by show 0≤k+1;omega,by show k+1≤(a.length:Int);omega,q2,FK q0 hlt q2 q3 (beq_iff_eq.1 (show (a.getD k.toNat []==b.getD k.toNat [])=true from h))⟩
 ·show (a==b)=true
  exact beq_iff_eq.2 (F7 (ao h) q2 q3)
def pf (p:Pr):aa:=fsp (ac aW (a1 aW)) (fun (a,b)=>p.leP (p.len a) 1073741824) (fun (a,b)=>.b (qeW a b))
theorem Dl:FOk Tryz.prog 38 (pf std):=by
 refine FOk.go (c:=cx std [] [] 0) (ae .nil .nil) mixed Tryz.func38 rfl rfl rfl (by kernel_rfl) ?_
 rintro ⟨a,b⟩ hp
 dsimp only at hp
 refine⟨rfl,?_⟩
 obtain⟨H,hH⟩ : ∃H:Hd (Int),H=⟨fun k=>0≤k∧k≤a.length∧a.length=b.length∧a.take k.toNat=b.take k.toNat,fun k=>(a.length-k).toNat,(· < ·)⟩:=⟨_,rfl⟩
 have hl:=hdl hH
 generalize hP:std=p,hB0:qeW=B0
 cbv
 repeat' first|refine fun (_:Unit)=>?_;cbv|refine Or.inr ⟨11,[],[.s 5 (.i .i64)],[],[],H,rfl,hl,?_,fun (k:Int) hk=>?_⟩<;>cbv|refine aI2 (fun h=>?_) (fun h=>?_)<;>cbv|refine aI2 ?_ ?_
 all_goals subst hP hB0 hH
 all_goals clear hl
 all_goals try dsimp only at hk
 all_goals try dsimp only
 all_goals try exact fin
 ·show (a==b)=false
  exact beq_eq_false_iff_ne.2 fun e=>beq_eq_false_iff_ne.1 (show ((a.length:Int)==(b.length:Int))=false from h) (by rw [e])
 all_goals obtain⟨q0,q1,q2,q3⟩:=hk
 ·show (a==b)=false
  exact beq_eq_false_iff_ne.2 (Hi (d:=[]) (k:=k) (beq_eq_false_iff_ne.1 (show (a.getD k.toNat []==b.getD k.toNat [])=false from h)))
 ·have hlt:k<(a.length:Int):=ah ‹_›
  exact⟨by show 0≤k+1;omega,by show k+1≤(a.length:Int);omega,q2,FK q0 hlt q2 q3 (beq_iff_eq.1 (show (a.getD k.toNat []==b.getD k.toNat [])=true from h))⟩
 ·show (a==b)=true
  exact beq_iff_eq.2 (F7 (ao h) q2 q3)
def Om (l:List Int):Bool:=decide ((4096:Int)<l.length)
def qW (p:Pr):aa:=fsp (a1 aY) (fun l=>True) (fun l=>.b (Om l))
theorem Fs:FOk Tryz.prog 9 (qW std):=by
 refine FOk.go (c:=cx std [] [] 0) (ae .nil .nil) mixed Tryz.func9 rfl rfl rfl (by kernel_rfl) ?_
 rintro l hp
 refine⟨rfl,?_⟩
 generalize hP:std=p,hB0:Om=B0
 cbv
 repeat' first|refine fun (_:Unit)=>?_;cbv|refine aI2 (fun h=>?_) (fun h=>?_)<;>cbv|refine aI2 ?_ ?_|refine Or.inl (fun (_:Unit)=>?_);cbv
 all_goals subst hP hB0
 all_goals try exact fin
def nn (p:Pr):aa:=fsp (ac (aP aTs) (a1 (aP aTs))) (fun (a,b)=>TsN a) (fun (a,b)=>.b (HZ a b))
theorem BJ:FOk Tryz.prog 76 (nn std):=by
 refine FOk.go (c:=cx std [(78,iJ std)] [] 0) (ae (.cons rO .nil) .nil) mixed Tryz.func76 rfl rfl rfl (by kernel_rfl) ?_
 rintro ⟨a,b⟩ hp
 dsimp only at hp
 refine⟨rfl,?_⟩
 unfold iJ
 generalize hP:std=p,hB0:HZ=B0,hB1:qeN=B1
 cbv
 repeat' first|refine fun (_:Unit)=>?_;cbv|refine aI2 (fun h=>?_) (fun h=>?_)<;>cbv|refine aI2 ?_ ?_|refine Or.inl (fun (_:Unit)=>?_);cbv
 all_goals subst hP hB0 hB1
 all_goals try exact fin
 all_goals (try simp only [lu,Fl,ED,iR,eD,fV,oD,Rk] at *)
 all_goals first
  | exact hp.v
  | exact hp.c
  | (simp_all [HZ];done)
def mt (p:Pr):aa:=fsp (ac (aA aGm) (a1 (aA aGm))) (fun (a,b)=>GmN a∧a=b) (fun (a,b)=>.b true)
theorem yI:FOk Tryz.prog 13 (mt std):=by
 refine FOk.go (c:=cx std [(76,nn std),(77,iZ std),(78,iJ std)] [] 0) (ae (.cons BJ (.cons r9 (.cons rO .nil))) .nil) mixed Tryz.func13 rfl rfl rfl (by kernel_rfl) ?_
 rintro ⟨a,b⟩ hp
 dsimp only at hp
 refine⟨rfl,?_⟩
 unfold nn iZ iJ
 generalize hP:std=p,hB0:HZ=B0,hB1:qeW=B1,hB2:qeN=B2
 cbv
 repeat' first|refine fun (_:Unit)=>?_;cbv|refine aI2 (fun h=>?_) (fun h=>?_)<;>cbv|refine aI2 ?_ ?_|refine Or.inl (fun (_:Unit)=>?_);cbv
 all_goals subst hP hB0 hB1 hB2
 all_goals try exact fin
 all_goals obtain⟨hn,rfl⟩:=hp
 all_goals try simp only [PZ,GP,OO,iR,eD,oD,fV] at *
 all_goals try (rename (_=!true)=>hh;cases hh)
 all_goals try (rename (true=false)=>hh;cases hh)
 all_goals try (rename (_=false)=>hh;simp at hh;done)
 ·exact hn.su.ts
 ·exact hn.su.l
 ·exact hn.r
 ·exact hn.s
 ·exact hn.k
structure CbP (l:List Int):Prop where
 b : ∀x∈l,0≤x∧x≤255
 n:(l.length:Int)≤9223372036854775807
theorem CbP.d {l:List Int} (h:CbP l) (hb:Om l=false):CdP l:=⟨h.b,by have h1:=of_decide_eq_false hb;omega⟩
theorem BS (g:Gm):Gm.mk g.ts g.lex g.bd0 g.secs g.rule g.bd g.bag g.racks g.scores g.clocks g.player g.zeros g.last g.over=g:=rfl
theorem Ts:GmN gm0:=⟨⟨⟨by decide,by decide⟩,by decide⟩,by decide,by decide,by decide⟩
theorem GmB.gq {g:Gm} (h:GmB 1048576 g):GmQ g:=(h.q (q:=⟨0,0,false,[]⟩) (by decide) (by decide)).gm
theorem GmB.gc {g:Gm} (h:GmB 1048576 g):GcL g:=(h.q (q:=⟨0,0,false,[]⟩) (by decide) (by decide)).cp
end Ax
end Go.Proofs.YtjjonmhpgkahoaaGreatDoor
