/-
  What the laws of turns are asked: walked.
  Conditions: none.
-/
import Derived.Test.YtjjonmhpgkahoaaGreatDoorV34
import Derived.Test.YtjjonmhpgkahoaaGreatDoorV15
import Derived.Test.YtjjonmhpgkahoaaGreatDoorV20
import Derived.Test.YtjjonmhpgkahoaaGreatDoorV21
import Derived.Test.YtjjonmhpgkahoaaGreatDoorV29
import Derived.Test.YtjjonmhpgkahoaaGreatDoorV22
import Derived.Test.YtjjonmhpgkahoaaGreatDoorV30
import Derived.Test.YtjjonmhpgkahoaaGreatDoorV28
set_option linter.unusedSimpArgs false
set_option linter.unusedVariables false
namespace Go.Proofs.YtjjonmhpgkahoaaGreatDoor
namespace Ax
set_option maxRecDepth 100000
set_option maxHeartbeats 20000000
def secV (σ:Src):Int:=if pkV σ 12=0 then amV (pkS σ 12) [-1,0,36000,36001] else pkV (pkS σ 12) 120
def secS (σ:Src):Src:=if pkV σ 12=0 then pkS (pkS σ 12) 4 else pkS (pkS σ 12) 120
theorem sec_t {σ:Src} (h:std.eqI (pkV σ 12) 0=true):secV σ=amV (pkS σ 12) [-1,0,36000,36001]∧secS σ=pkS (pkS σ 12) 4:=by
 have h1:pkV σ 12=0:=by simpa using h
 exact⟨if_pos h1,if_pos h1⟩
theorem sec_f {σ:Src} (h:std.eqI (pkV σ 12) 0=false):secV σ=pkV (pkS σ 12) 120∧secS σ=pkS (pkS σ 12) 120:=by
 have h1 : ¬pkV σ 12=0:=by simpa using h
 exact⟨if_neg h1,if_neg h1⟩
def sp_s_l18Seconds (p:Pr):MSpec:=msp (mS a0) (fun (σ,_u)=>SrOk 999999900000 σ) (fun (σ,_u)=>.i .i64 (secV σ)) (fun (σ,_u)=>srH (secS σ))
theorem ok_s_l18Seconds:MOk Tryz.prog 93 (sp_s_l18Seconds std):=by
 refine MOk.go (c:=cx std [] [(96,sp_s_xl00Src_one std),(64,sp_s_xl00Src_pick std),(66,sp_amongO std)] 1) (cx_ok .nil (.cons ok_s_xl00Src_one (.cons ok_s_xl00Src_pick (.cons ok_amongO .nil)))) mixed Tryz.func93 rfl rfl (by kernel_rfl) ?_
 rintro ⟨σ,_u⟩ hp
 dsimp only at hp
 refine⟨rfl,?_⟩
 unfold sp_s_xl00Src_one sp_s_xl00Src_pick sp_amongO
 generalize hP:std=p,hB0:pkS=B0,hB1:pkV=B1,hB2:amV=B2,hB3:secV=B3,hB4:secS=B4
 cbv
 repeat' first|refine fun (_:Unit)=>?_;cbv|refine aI2 (fun h=>?_) (fun h=>?_)<;>cbv|refine aI2 ?_ ?_|refine Or.inl (fun (_:Unit)=>?_);cbv
 all_goals subst hP hB0 hB1 hB2 hB3 hB4
 all_goals try exact fin
 all_goals (try simp only [eta_sr] at *)
 all_goals try exact Int.NonNeg.mk _
 all_goals first
  | exact hp.le (by decide)
  | exact (pk_ok hp 12).le (by decide)
  | exact (sec_t ‹_›).1.symm
  | (rw [(sec_t ‹_›).2];exact rfl)
  | (rw [(sec_f ‹_›).1])
  | (rw [(sec_f ‹_›).2])
  | skip
def aY:Arg (List Int):=⟨fun | .rsl [.i .u8] n=>some n | _=>none,.rsl [.i .u8],fun x a h=>by split at h<;>cases h;rfl⟩
structure CdP (l:List Int):Prop where
 b : ∀x∈l,0≤x∧x≤255
 n:(l.length:Int)≤1048576
theorem CdP.s {l:List Int} {n:Int} (h:CdP l) (hn:0≤n):SrOk n ⟨l,0,0⟩:=⟨Int.le_refl 0,hn,h.n,h.b⟩
theorem BeB.gl {g:Gm} (h:BeB g):GmL g:=(h.b.s (q:=⟨0,0,false,[]⟩) (by decide) (by decide)).gm
theorem BeB.gp {g:Gm} (h:BeB g):GmP g:=(h.b.s (q:=⟨0,0,false,[]⟩) (by decide) (by decide)).own
def sp_s_l00From (p:Pr):FSpec:=fsp (a1 aY) (fun code=>True) (fun code=>.ptr 0 0) (fun code=>srH ⟨code,0,0⟩)
theorem ok_s_l00From:FOk Tryz.prog 61 (sp_s_l00From std):=by
 refine FOk.go (c:=cx std [] [] 0) (cx_ok .nil .nil) mixed Tryz.func61 rfl rfl rfl (by kernel_rfl) ?_
 rintro code hp
 refine⟨rfl,?_⟩
 generalize hP:std=p
 cbv
 repeat' first|refine fun (_:Unit)=>?_;cbv|refine aI2 (fun h=>?_) (fun h=>?_)<;>cbv|refine aI2 ?_ ?_|refine Or.inl (fun (_:Unit)=>?_);cbv
 all_goals subst hP
 all_goals try exact fin
set_option maxHeartbeats 2000000
def sp_s_l00Same (p:Pr):FSpec:=fsp (ac aN (a1 aN)) (fun (a,b)=>p.leP (p.len a) 1073741824) (fun (a,b)=>.b (qeN a b))
theorem ok_s_l00Same:FOk Tryz.prog 78 (sp_s_l00Same std):=by
 refine FOk.go (c:=cx std [] [] 0) (cx_ok .nil .nil) mixed Tryz.func78 rfl rfl rfl (by kernel_rfl) ?_
 rintro ⟨a,b⟩ hp
 dsimp only at hp
 refine⟨rfl,?_⟩
 obtain⟨H,hH⟩ : ∃H:Hd (Int),H=⟨fun k=>0≤k∧k≤a.length∧a.length=b.length∧a.take k.toNat=b.take k.toNat,fun k=>(a.length-k).toNat,(· < ·)⟩:=⟨_,rfl⟩
 have hl:=hdl hH
 generalize hP:std=p,hB0:qeN=B0
 cbv
 repeat' first|refine fun (_:Unit)=>?_;cbv|refine Or.inr ⟨11,[],[.s 5 (.i .i64)],[],[],H,rfl,hl,?_,fun (k:Int) hk=>?_⟩<;>cbv|refine aI2 (fun h=>?_) (fun h=>?_)<;>cbv|refine aI2 ?_ ?_
 all_goals subst hP hB0 hH
 all_goals clear hl
 all_goals try dsimp only at hk
 all_goals try dsimp only
 all_goals try exact fin
 ·show (a==b)=false
  exact beq_eq_false_iff_ne.2 fun e=>beq_eq_false_iff_ne.1 (show ((a.length:Int)==(b.length:Int))=false from h) (by rw [e])
 all_goals obtain⟨q0,q1,q2,q3⟩:=hk
 ·show (a==b)=false
  exact beq_eq_false_iff_ne.2 (eq_no (d:=0) (k:=k) (beq_eq_false_iff_ne.1 (show (a.getD k.toNat 0==b.getD k.toNat 0)=false from h)))
 ·have hlt:k<(a.length:Int):=lt_of ‹_›
  exact⟨by show 0≤k+1;omega,by show k+1≤(a.length:Int);omega,q2,eq_tk q0 hlt q2 q3 (beq_iff_eq.1 (show (a.getD k.toNat 0==b.getD k.toNat 0)=true from h))⟩
 ·show (a==b)=true
  exact beq_iff_eq.2 (eq_al (ge_of h) q2 q3)
def sp_s_l05Same (p:Pr):FSpec:=fsp (ac aW (a1 aW)) (fun (a,b)=>p.leP (p.len a) 1073741824) (fun (a,b)=>.b (qeW a b))
theorem ok_s_l05Same:FOk Tryz.prog 77 (sp_s_l05Same std):=by
 refine FOk.go (c:=cx std [] [] 0) (cx_ok .nil .nil) mixed Tryz.func77 rfl rfl rfl (by kernel_rfl) ?_
 rintro ⟨a,b⟩ hp
 dsimp only at hp
 refine⟨rfl,?_⟩
 obtain⟨H,hH⟩ : ∃H:Hd (Int),H=⟨fun k=>0≤k∧k≤a.length∧a.length=b.length∧a.take k.toNat=b.take k.toNat,fun k=>(a.length-k).toNat,(· < ·)⟩:=⟨_,rfl⟩
 have hl:=hdl hH
 generalize hP:std=p,hB0:qeW=B0
 cbv
 repeat' first|refine fun (_:Unit)=>?_;cbv|refine Or.inr ⟨11,[],[.s 5 (.i .i64)],[],[],H,rfl,hl,?_,fun (k:Int) hk=>?_⟩<;>cbv|refine aI2 (fun h=>?_) (fun h=>?_)<;>cbv|refine aI2 ?_ ?_
 all_goals subst hP hB0 hH
 all_goals clear hl
 all_goals try dsimp only at hk
 all_goals try dsimp only
 all_goals try exact fin
 ·show (a==b)=false
  exact beq_eq_false_iff_ne.2 fun e=>beq_eq_false_iff_ne.1 (show ((a.length:Int)==(b.length:Int))=false from h) (by rw [e])
 all_goals obtain⟨q0,q1,q2,q3⟩:=hk
 ·show (a==b)=false
  exact beq_eq_false_iff_ne.2 (eq_no (d:=[]) (k:=k) (beq_eq_false_iff_ne.1 (show (a.getD k.toNat []==b.getD k.toNat [])=false from h)))
 ·have hlt:k<(a.length:Int):=lt_of ‹_›
  exact⟨by show 0≤k+1;omega,by show k+1≤(a.length:Int);omega,q2,eq_tk q0 hlt q2 q3 (beq_iff_eq.1 (show (a.getD k.toNat []==b.getD k.toNat [])=true from h))⟩
 ·show (a==b)=true
  exact beq_iff_eq.2 (eq_al (ge_of h) q2 q3)
def sp_l_f6ints (p:Pr):FSpec:=fsp (ac aN (a1 aN)) (fun (a,b)=>p.leP (p.len a) 1073741824) (fun (a,b)=>.b (qeN a b))
theorem ok_l_f6ints:FOk Tryz.prog 32 (sp_l_f6ints std):=by
 refine FOk.go (c:=cx std [] [] 0) (cx_ok .nil .nil) mixed Tryz.func32 rfl rfl rfl (by kernel_rfl) ?_
 rintro ⟨a,b⟩ hp
 dsimp only at hp
 refine⟨rfl,?_⟩
 obtain⟨H,hH⟩ : ∃H:Hd (Int),H=⟨fun k=>0≤k∧k≤a.length∧a.length=b.length∧a.take k.toNat=b.take k.toNat,fun k=>(a.length-k).toNat,(· < ·)⟩:=⟨_,rfl⟩
 have hl:=hdl hH
 generalize hP:std=p,hB0:qeN=B0
 cbv
 repeat' first|refine fun (_:Unit)=>?_;cbv|refine Or.inr ⟨11,[],[.s 5 (.i .i64)],[],[],H,rfl,hl,?_,fun (k:Int) hk=>?_⟩<;>cbv|refine aI2 (fun h=>?_) (fun h=>?_)<;>cbv|refine aI2 ?_ ?_
 all_goals subst hP hB0 hH
 all_goals clear hl
 all_goals try dsimp only at hk
 all_goals try dsimp only
 all_goals try exact fin
 ·show (a==b)=false
  exact beq_eq_false_iff_ne.2 fun e=>beq_eq_false_iff_ne.1 (show ((a.length:Int)==(b.length:Int))=false from h) (by rw [e])
 all_goals obtain⟨q0,q1,q2,q3⟩:=hk
 ·show (a==b)=false
  exact beq_eq_false_iff_ne.2 (eq_no (d:=0) (k:=k) (beq_eq_false_iff_ne.1 (show (a.getD k.toNat 0==b.getD k.toNat 0)=false from h)))
 ·have hlt:k<(a.length:Int):=lt_of ‹_›
  exact⟨by show 0≤k+1;omega,by show k+1≤(a.length:Int);omega,q2,eq_tk q0 hlt q2 q3 (beq_iff_eq.1 (show (a.getD k.toNat 0==b.getD k.toNat 0)=true from h))⟩
 ·show (a==b)=true
  exact beq_iff_eq.2 (eq_al (ge_of h) q2 q3)
def sp_l_f6same (p:Pr):FSpec:=fsp (ac aW (a1 aW)) (fun (a,b)=>p.leP (p.len a) 1073741824) (fun (a,b)=>.b (qeW a b))
theorem ok_l_f6same:FOk Tryz.prog 38 (sp_l_f6same std):=by
 refine FOk.go (c:=cx std [] [] 0) (cx_ok .nil .nil) mixed Tryz.func38 rfl rfl rfl (by kernel_rfl) ?_
 rintro ⟨a,b⟩ hp
 dsimp only at hp
 refine⟨rfl,?_⟩
 obtain⟨H,hH⟩ : ∃H:Hd (Int),H=⟨fun k=>0≤k∧k≤a.length∧a.length=b.length∧a.take k.toNat=b.take k.toNat,fun k=>(a.length-k).toNat,(· < ·)⟩:=⟨_,rfl⟩
 have hl:=hdl hH
 generalize hP:std=p,hB0:qeW=B0
 cbv
 repeat' first|refine fun (_:Unit)=>?_;cbv|refine Or.inr ⟨11,[],[.s 5 (.i .i64)],[],[],H,rfl,hl,?_,fun (k:Int) hk=>?_⟩<;>cbv|refine aI2 (fun h=>?_) (fun h=>?_)<;>cbv|refine aI2 ?_ ?_
 all_goals subst hP hB0 hH
 all_goals clear hl
 all_goals try dsimp only at hk
 all_goals try dsimp only
 all_goals try exact fin
 ·show (a==b)=false
  exact beq_eq_false_iff_ne.2 fun e=>beq_eq_false_iff_ne.1 (show ((a.length:Int)==(b.length:Int))=false from h) (by rw [e])
 all_goals obtain⟨q0,q1,q2,q3⟩:=hk
 ·show (a==b)=false
  exact beq_eq_false_iff_ne.2 (eq_no (d:=[]) (k:=k) (beq_eq_false_iff_ne.1 (show (a.getD k.toNat []==b.getD k.toNat [])=false from h)))
 ·have hlt:k<(a.length:Int):=lt_of ‹_›
  exact⟨by show 0≤k+1;omega,by show k+1≤(a.length:Int);omega,q2,eq_tk q0 hlt q2 q3 (beq_iff_eq.1 (show (a.getD k.toNat []==b.getD k.toNat [])=true from h))⟩
 ·show (a==b)=true
  exact beq_iff_eq.2 (eq_al (ge_of h) q2 q3)
def bigB (l:List Int):Bool:=decide ((4096:Int)<l.length)
def sp_l_f6big (p:Pr):FSpec:=fsp (a1 aY) (fun l=>True) (fun l=>.b (bigB l))
theorem ok_l_f6big:FOk Tryz.prog 9 (sp_l_f6big std):=by
 refine FOk.go (c:=cx std [] [] 0) (cx_ok .nil .nil) mixed Tryz.func9 rfl rfl rfl (by kernel_rfl) ?_
 rintro l hp
 refine⟨rfl,?_⟩
 generalize hP:std=p,hB0:bigB=B0
 cbv
 repeat' first|refine fun (_:Unit)=>?_;cbv|refine aI2 (fun h=>?_) (fun h=>?_)<;>cbv|refine aI2 ?_ ?_|refine Or.inl (fun (_:Unit)=>?_);cbv
 all_goals subst hP hB0
 all_goals try exact fin
def sp_s_l02Same (p:Pr):FSpec:=fsp (ac (aP aTs) (a1 (aP aTs))) (fun (a,b)=>TsN a) (fun (a,b)=>.b (qeTs a b))
theorem ok_s_l02Same:FOk Tryz.prog 76 (sp_s_l02Same std):=by
 refine FOk.go (c:=cx std [(78,sp_s_l00Same std)] [] 0) (cx_ok (.cons ok_s_l00Same .nil) .nil) mixed Tryz.func76 rfl rfl rfl (by kernel_rfl) ?_
 rintro ⟨a,b⟩ hp
 dsimp only at hp
 refine⟨rfl,?_⟩
 unfold sp_s_l00Same
 generalize hP:std=p,hB0:qeTs=B0,hB1:qeN=B1
 cbv
 repeat' first|refine fun (_:Unit)=>?_;cbv|refine aI2 (fun h=>?_) (fun h=>?_)<;>cbv|refine aI2 ?_ ?_|refine Or.inl (fun (_:Unit)=>?_);cbv
 all_goals subst hP hB0 hB1
 all_goals try exact fin
 all_goals (try simp only [sd_eqI,sd_eqS,sd_eqB,eta_ts,eta_bd,eta_pl,eta_la,eta_su] at *)
 all_goals first
  | exact hp.v
  | exact hp.c
  | (simp_all [qeTs];done)
def sp_s_SameGame (p:Pr):FSpec:=fsp (ac (aA aGm) (a1 (aA aGm))) (fun (a,b)=>GmN a∧a=b) (fun (a,b)=>.b true)
theorem ok_s_SameGame:FOk Tryz.prog 13 (sp_s_SameGame std):=by
 refine FOk.go (c:=cx std [(76,sp_s_l02Same std),(77,sp_s_l05Same std),(78,sp_s_l00Same std)] [] 0) (cx_ok (.cons ok_s_l02Same (.cons ok_s_l05Same (.cons ok_s_l00Same .nil))) .nil) mixed Tryz.func13 rfl rfl rfl (by kernel_rfl) ?_
 rintro ⟨a,b⟩ hp
 dsimp only at hp
 refine⟨rfl,?_⟩
 unfold sp_s_l02Same sp_s_l05Same sp_s_l00Same
 generalize hP:std=p,hB0:qeTs=B0,hB1:qeW=B1,hB2:qeN=B2
 cbv
 repeat' first|refine fun (_:Unit)=>?_;cbv|refine aI2 (fun h=>?_) (fun h=>?_)<;>cbv|refine aI2 ?_ ?_|refine Or.inl (fun (_:Unit)=>?_);cbv
 all_goals subst hP hB0 hB1 hB2
 all_goals try exact fin
 all_goals obtain⟨hn,rfl⟩:=hp
 all_goals try simp only [qeTs_r,qeW_r,qeN_r,eta_ts,eta_bd,eta_la,eta_pl] at *
 all_goals try (rename (_=!true)=>hh;cases hh)
 all_goals try (rename (true=false)=>hh;cases hh)
 all_goals try (rename (_=false)=>hh;simp at hh;done)
 ·exact hn.su.ts
 ·exact hn.su.l
 ·exact hn.r
 ·exact hn.s
 ·exact hn.k
structure CbP (l:List Int):Prop where
 b : ∀x∈l,0≤x∧x≤255
 n:(l.length:Int)≤9223372036854775807
theorem CbP.d {l:List Int} (h:CbP l) (hb:bigB l=false):CdP l:=⟨h.b,by have h1:=of_decide_eq_false hb;omega⟩
theorem eta_gmz (g:Gm):Gm.mk g.ts g.lex g.bd0 g.secs g.rule g.bd g.bag g.racks g.scores g.clocks g.player g.zeros g.last g.over=g:=rfl
end Ax
end Go.Proofs.YtjjonmhpgkahoaaGreatDoor
namespace Go.Proofs.YtjjonmhpgkahoaaGreatDoor
open Go.ChangeShapes Go.WideShapes Go.ChangeAt Go.RowKit Go.Joins
set_option maxRecDepth 100000
namespace Ax
theorem flat_by:flatT tyT 6 22=some [.r [.i .u8]]:=by kernel_rfl
theorem vok_by {w:World} {fz:Nat→Prop} {l:List PV} {cs:List Value} (h:VOk w fz [.r [.i .u8]] l cs) : ∃x:List Int,l=[.rsl [.i .u8] x]∧CbP x:=by
 obtain⟨x,_,_,_,rfl, -,z, -,rfl, -⟩:=h
 unfold SzA at z
 refine⟨x,rfl,⟨fun y hy=>?_,z.1⟩⟩
 have h2:=z.2 y hy
 unfold SzE SzEs SzA at h2
 exact h2
theorem law_trueB {f:FuncId} {S:FSpec} (h:FOk Tryz.prog f S) {args:List PV} {pre:Prop} (hs:S args=some ⟨[pre],.b true,[]⟩) (hp:pre) {W:World} (hg:Gl W) {vals:Array Value} (hl:Rs W (e0 W) args vals.toList) :
 Calls Tryz.prog f vals W fun e W'=>e=.returned (.bool true)∧Below W.heap.size W W':=by
 refine (h.run args _ hs (fun p hm=>by rw [List.mem_singleton.1 hm];exact hp) W (e0 W) vals (e0_ok hg) hl).mono ?_
 rintro en w' ⟨u,e',rfl,hP⟩
 have hv:=hP.val
 unfold R at hv
 subst hv
 exact⟨rfl,⟨hP.chg.os,hP.chg.tape,hP.chg.output,hP.chg.size,fun b hb=>hP.chg.block b hb fun ⟨k,hk,_⟩=>hk.elim⟩⟩
end Ax
end Go.Proofs.YtjjonmhpgkahoaaGreatDoor
namespace Go.Proofs.YtjjonmhpgkahoaaGreatDoor
namespace Ax
set_option maxRecDepth 100000
set_option maxHeartbeats 4000000
def iRest (g:Gm):List UInt8:=withoutS (g.rk g.last.player) g.last.drawn
def iTil (g:Gm):List UInt8:=tilesP (placedI g.bef g.last.play)
def iRks (g:Gm):List (List UInt8):=g.racks.set g.last.player.toNat (pileL (countsL (iRest g++iTil g)))
def iw1 (g:Gm):Gm:=⟨g.ts,g.lex,g.bd0,g.secs,g.rule,⟨g.bd.size,g.bd.prem,g.last.before⟩,wBag g,iRks g,wSc g,g.clocks,g.player,g.last.zeros+1,idleL 3 g.last.player,g.over⟩
def iSs (g:Gm):List Int:=setS (iw1 g) (g.last.zeros+1==6)
def iOv (g:Gm):Bool:=ovB (iw1 g) (g.last.zeros+1==6)
structure WiP (g:Gm):Prop where
 vp:VP g.bef g.last.play
 r2:g.racks.length=2
 s2:g.scores.length=2
 p:0≤g.last.player∧g.last.player≤1
 st:StP (g.rk g.last.player)
 sd:StP g.last.drawn
 rl:(iRest g).length ≤7
 sp:StP (iRest g++iTil g)
 dr:g.last.drawn.length≤120
 bag:g.bag.length≤120
 sc : -1000000≤g.sc g.last.player∧g.sc g.last.player≤1000000
 so : -1000000≤g.last.score∧g.last.score≤1000000
 z:0≤g.last.zeros∧g.last.zeros≤5
 set:SetQ (iw1 g) (g.last.zeros+1==6)
section
variable {g:Gm} {k:Int}
end
def sp_i_xGame_withdraw (p:Pr):MSpec:=msp (mG a0) (fun (g,_u)=>WiP g) (fun (g,_u)=>.tup []) (fun (g,_u)=>gmH ⟨g.ts,g.lex,g.bd0,g.secs,g.rule,⟨g.bd.size,g.bd.prem,g.last.before⟩,wBag g,iRks g,iSs g,g.clocks,g.player,wZe g,⟨3,g.last.player,⟨0,0,false,[]⟩,[],[],0,0⟩,iOv g⟩)
theorem ok_i_xGame_withdraw:MOk Tryz.prog 136 (sp_i_xGame_withdraw std):=by
 refine MOk.go (c:=cx std [(116,sp_i_without std),(117,sp_i_placedTiles std),(69,sp_i_sorted std)] [(101,sp_i_xGame_settle std)] 7) (cx_ok (.cons ok_i_without (.cons ok_i_placedTiles (.cons ok_i_sorted .nil))) (.cons ok_i_xGame_settle .nil)) mixed Tryz.func136 rfl rfl (by kernel_rfl) ?_
 rintro ⟨g,_u⟩ hp
 dsimp only at hp
 refine⟨rfl,?_⟩
 unfold sp_i_without sp_i_placedTiles sp_i_sorted sp_i_xGame_settle
 generalize hP:std=p,hB0:wBag=B0,hB1:iRks=B1,hB2:iSs=B2,hB3:wZe=B3,hB4:iOv=B4,hB5:withoutS=B5,hB6:withoutB=B6,hB7:tilesP=B7,hB8:placedI=B8,hB9:pileL=B9,hB10:countsL=B10,hB11:setS=B11,hB12:ovB=B12
 cbv
 repeat' first|refine fun (_:Unit)=>?_;cbv|refine aI2 (fun h=>?_) (fun h=>?_)<;>cbv|refine aI2 ?_ ?_|refine Or.inl (fun (_:Unit)=>?_);cbv
 all_goals subst hP hB0 hB1 hB2 hB3 hB4 hB5 hB6 hB7 hB8 hB9 hB10 hB11 hB12
 all_goals try exact fin
 all_goals (have h4:=hp.p;have h5:=hp.r2;have h6:=hp.s2;have h7:=hp.dr;have h8:=hp.bag;have h9:=hp.sc;have b1:=hp.so;have b2:=hp.z;have b3:=hp.rl;have b4:=hp.sp.len;have b5:(iTil g).length ≤(iRest g++iTil g).length :=by rw [List.length_append];omega)
 all_goals first
  | exact⟨h4.1,by show g.last.player<(g.racks.length:Int);omega⟩
  | exact⟨h4.1,by show g.last.player<(g.scores.length:Int);omega⟩
  | exact⟨hp.st,hp.sd⟩
  | exact hp.st
  | exact hp.sd
  | exact hp.vp
  | exact hp.sp
  | exact hp.set
  | exact in64 (by show _≤((iRest g).length : Int)+((iTil g).length : Int)∧((iRest g).length : Int)+((iTil g).length : Int)≤_;omega)
  | exact in64 (by show _≤(g.last.drawn.length:Int)+(g.bag.length:Int)∧(g.last.drawn.length:Int)+(g.bag.length:Int)≤_;omega)
  | exact in64 (by show _≤g.sc g.last.player-g.last.score∧g.sc g.last.player-g.last.score≤_;omega)
  | exact in64 (by show _≤g.last.zeros+1∧g.last.zeros+1≤_;omega)
  | rfl
  | skip
set_option maxHeartbeats 2000000
section
variable {g:Gm} {n:Int}
structure ChV (g:Gm):Prop where
 bd:bdB g.bef=true
 v:validI g.bef g.last.play=true
 vp:VP g.bef g.last.play
theorem ch_v (h:ChF g n):ChV g:=by
 have hk:=pkf h.ok
 have hb:bdB g.bef=true:=by have:=hk.ok;unfold Go.Proofs.YtjjonmhpgkahoaaGreatDoor.okB at this;rw [Bool.and_eq_true] at this;exact this.1
 have hv:validI g.bef g.last.play=true:=by rw [←okB_validI hb];exact hk.ok
 exact⟨hb,hv,VP.of hb hv⟩
theorem i_til (h:ChV g):iTil g=wTil g:=by
 obtain⟨hon,hw,h2,h12⟩:=validI_facts h.v
 unfold iTil wTil
 rw [placed_new h.bd hon]
 exact tiles_pile (placedI_lett hw)
theorem i_rest (h:ChF g n):iRest g=wRest g:=(rest_same (h.sy.ok.rk _) (bag_stp (pkf h.ok).dr).ti (pkf h.ok).tk).symm
theorem i_sp (h:ChF g n):StP (iRest g++iTil g):=by
 have hv:=ch_v h
 have h1:=(tp_stp hv.vp)
 have h2:(iRest g).all tileB=true:=by
  rw [i_rest h]
  exact takeS_all (rackB_asc (h.sy.ok.rk g.last.player)).1
 have h3:(iRest g).length ≤7:=by rw [i_rest h];exact Nat.le_trans (takeGo_sub _ _).length_le (rack_len (h.sy.ok.rk _))
 have h5:(iTil g).length ≤15:=by
  rw [i_til hv]
  unfold wTil
  rw [tilesS_len]
  exact Nat.le_trans (placedS_len _ _) (okB_on (pkf h.ok).ok).on.len
 refine⟨by rw [List.all_append,h2];exact h1.ti,by rw [List.length_append];omega⟩
theorem i_rks (h:ChF g n):iRks g=wRks g:=by
 unfold iRks wRks wRack
 rw [sort_pile (i_sp h).ti,i_til (ch_v h),i_rest h]
theorem i_w1 (h:ChF g n):iw1 (clockG g n)=wd1 (clockG g n):=by
 have e:iRks (clockG g n)=wRks (clockG g n):=(show iRks g=wRks g from i_rks h)
 unfold iw1 wd1
 rw [e]
theorem i_ss (h:ChF g n):iSs (clockG g n)=wSs (clockG g n):=by
 unfold iSs wSs setS wEnd
 rw [i_w1 h];rfl
theorem i_ov (h:ChF g n):iOv (clockG g n)=wOv (clockG g n):=by
 unfold iOv wOv ovB wEnd
 rw [i_w1 h];rfl
theorem ch_wi (h:ChF g n):WiP (clockG g n):=by
 have hk:=pkf h.ok
 have hs:=h.sy.ok.sc g.last.player
 have hso:=ch_so h
 refine⟨(ch_v h).vp,h.sy.r2,h.sy.fa.s,(show 0≤g.last.player∧g.last.player≤1 from ch_ply h),rack_stp (h.sy.ok.rk _),bag_stp hk.dr,?_,(show StP (iRest g++iTil g) from i_sp h),bag_len hk.dr,bag_len h.sy.ok.bag,?_,?_,hk.z,⟨fun _=>by rw [i_w1 h];exact ch_set1 h⟩⟩
 ·show (iRest g).length ≤7
  rw [i_rest h]
  exact Nat.le_trans (takeGo_sub _ _).length_le (rack_len (h.sy.ok.rk _))
 ·show -1000000≤g.sc g.last.player∧g.sc g.last.player≤1000000
  omega
 ·have:=hk.s2
  show -1000000≤g.last.score∧g.last.score≤1000000
  omega
end
set_option maxHeartbeats 20000000
structure ChP (g:Gm):Prop where
 gm:GmQ g
 cp:GcL g
section
variable {g:Gm} {n:Int}
end
theorem NOk.ofF {P:Program} {g:FuncId} {α β:Type} {A:Args α} {pre:α→Prop} {B:NRes β} {f:α→β} {v:α→PV} (h:FOk P g (fsp A pre v)) (hv : ∀a,v a=B.v (f a)) (hB : ∀x,B.eh x=[]):NOk P g (nsp (mN A) pre (fun _=>B) (fun a x=>x=f a)):=by
 refine⟨h.fn,fun H args out hs hp w e vals hz hob hon hlv hbd hdis hl=>?_⟩
 unfold nsp at hs
 split at hs
 ·rename_i a ha
  cases hs
  unfold mN at ha
  dsimp only at ha
  split at ha
  ·have he:({ e with on:=fun _=>False,lv:=fun _=>False } : Env)=e:=by
    have h1:(fun _:Nat=>False)=e.on:=funext fun k=>propext ⟨fun h=>h.elim,fun h=>absurd ((hon k).1 h) (Nat.not_lt_zero k)⟩
    have h2:(fun _:Nat=>False)=e.lv:=funext fun k=>propext ⟨fun h=>h.elim,fun h=>absurd ((hlv k).1 h) (Nat.not_lt_zero k)⟩
    show (⟨e.adr,e.cap,e.len,e.fz,fun _=>False,fun _=>False⟩:Env)=⟨e.adr,e.cap,e.len,e.fz,e.on,e.lv⟩
    rw [←h1,←h2]
   have hS:(fsp A pre v:FSpec) args=some ⟨[pre a],v a,[]⟩:=by unfold fsp;rw [ha]
   refine (h.run args _ hS (fun q hq=>hp q hq) w e vals hz hl).mono ?_
   rintro en w' ⟨u,e',hu,hP⟩
   rw [he,hv] at hP
   refine⟨f a,rfl,u,e',hu,?_⟩
   show Post w w' e e' 0 ⟨[],B.v (f a),B.eh (f a)⟩ u
   rw [hB]
   exact⟨hP.val,hP.le,hP.fz,hP.eff,hP.new,hP.nlv,hP.klv,hP.dis,hP.chg⟩
  ·cases ha
 ·cases hs
def wdC (g:Gm):Int:=if actC g 0=0 then (if g.last.kind=1 then 0 else 6) else actC g 0
def wdR (g:Gm):Gm:=if wdC g=0 then wdG g else gm0
section
variable {g:Gm}
theorem r1_v (h:GV g):GV { g with rule:=1 }:=by
 have h8:=h.su
 unfold setupB at h8
 simp only [Bool.and_eq_true] at h8
 refine⟨?_,h.bd,h.sz,h.pm,h.bag,h.rl,h.sl,h.kl,h.pl,h.ze,h.s0,h.s1,h.ti,h.la,h.ov⟩
 unfold setupB
 simp only [Bool.and_eq_true]
 exact⟨h8.1,h8.2.1,h8.2.2.1,h8.2.2.2.1,h8.2.2.2.2.1,by decide⟩
theorem r1_a (h:actC g 0=0):actC { g with rule:=1 } 0=0:=by
 have hv:=(act_f h).v
 unfold actC at h ⊢
 rw [hv.b] at h
 rw [(r1_v hv).b]
 exact h
theorem wc_of (h:wdC g=0):actC g 0=0∧g.last.kind=1:=by
 unfold wdC at h
 split at h
 ·rename_i h1
  split at h
  ·rename_i h2;exact⟨h1,h2⟩
  ·cases h
 ·rename_i h1;exact absurd h h1
theorem wc_chf (h:wdC g=0):ChF { g with rule:=1 } 0:=by
 obtain⟨h1,h2⟩:=wc_of h
 refine chf (by rw [r1_a h1];decide) ?_
 have h3:=(act_f h1).ov
 unfold canB
 show (!g.over&&((1:Int) !=0&&g.last.kind==1))=true
 rw [h3,h2];rfl
theorem clock0 (h:GV g):clockG g 0=g:=by
 have hp:=in_bd h.pl
 have hk:=h.kl
 have e:ckL g 0=g.clocks:=by
  unfold ckL
  rw [Int.sub_zero]
  show g.clocks.set g.player.toNat (g.clocks.getD g.player.toNat 0)=g.clocks
  rw [List.getD_eq_getElem?_getD,List.getElem?_eq_getElem (show g.player.toNat<g.clocks.length by omega)]
  exact List.set_getElem_self _
 unfold clockG
 rw [e]
theorem wc_wd (h:wdC g=0):WdP g:=by
 have h1:=ch_wd (wc_chf h)
 rw [clock0 (r1_v (act_f (wc_of h).1).v)] at h1
 exact⟨h1.pl,h1.r2,h1.s2,h1.p,h1.rk,h1.dr,h1.bag,h1.sc,h1.so,h1.z,⟨⟨h1.set.en.ts,h1.set.en.rk,h1.set.en.ck,h1.set.en.len,h1.set.en.clk⟩,h1.set.len,h1.set.lo,h1.set.hi⟩⟩
end
structure SwY (g:Gm):Prop where
 b:StC g
 c:wdC g=0
structure SwN (g:Gm):Prop where
 b:StC g
 c:wdC g≠0
structure IwY (g:Gm):Prop where
 b:ChP g
 c:wdC g=0
structure IwN (g:Gm):Prop where
 b:ChP g
 c:wdC g≠0
section
variable {g:Gm}
theorem wq1 (hc:wdC g=0) (h:std.eqI (actC g 0) 0=false):False:=eqI_f h (wc_of hc).1
theorem wq2 (hc:wdC g=0) (h:std.eqI g.last.kind 1=false):False:=eqI_f h (wc_of hc).2
theorem wn1 (h:std.eqI (actC g 0) 0=false):actC g 0=wdC g:=by
 unfold wdC
 rw [if_neg (eqI_f h)]
theorem wn2 (h:std.eqI (actC g 0) 0=true) (h2:std.eqI g.last.kind 1=false):6=wdC g:=by
 unfold wdC
 rw [if_pos (eqI_t h),if_neg (eqI_f h2)]
theorem wn3 (hc:wdC g≠0) (h:std.eqI (actC g 0) 0=true) (h2:std.eqI g.last.kind 1=true):False:=by
 unfold wdC at hc
 rw [if_pos (eqI_t h),if_pos (eqI_t h2)] at hc
 exact hc rfl
end
def sp_s_WithdrawPlay_y (p:Pr):FSpec:=fsp (a1 (aA aGm)) (fun g=>SwY g) (fun g=>.tup [.agg (gmK ⟨g.ts,g.lex,g.bd0,g.secs,g.rule,⟨g.bd.size,g.bd.prem,g.last.before⟩,wBag g,wRks g,wSs g,g.clocks,g.player,wZe g,⟨3,g.last.player,⟨0,0,false,[]⟩,[],[],0,0⟩,wOv g⟩ (.osl 0) (.osl 1) (.osl 2) (.osl 3) (.osl 4) (.osl 5)),.i .i64 0]) (fun g=>[(0,.own [.i .i64] g.ts.values 2),(1,.own [.i .i64] g.ts.counts 2),(2,.own [.s] g.lex 9),(3,.own [.s] (wRks g) 9),(4,.own [.i .i64] (wSs g) 2),(5,.own [.i .i64] g.clocks 2)])
theorem ok_s_WithdrawPlay_y:FOk Tryz.prog 47 (sp_s_WithdrawPlay_y std):=by
 refine FOk.go (c:=cx std [(105,sp_s_l18Begin std),(108,sp_s_l18Own std)] [(137,sp_s_l19Withdraw std)] 0) (cx_ok (.cons ok_s_l18Begin (.cons ok_s_l18Own .nil)) (.cons ok_s_l19Withdraw .nil)) mixed Tryz.func47 rfl rfl rfl (by kernel_rfl) ?_
 rintro g hp
 refine⟨rfl,?_⟩
 unfold sp_s_l18Begin sp_s_l18Own sp_s_l19Withdraw
 generalize hP:std=p,hB0:actC=B0,hB1:wBag=B1,hB2:wRks=B2,hB3:wSs=B3,hB4:wZe=B4,hB5:wOv=B5
 cbv
 repeat' first|refine fun (_:Unit)=>?_;cbv|refine aI2 (fun h=>?_) (fun h=>?_)<;>cbv|refine aI2 ?_ ?_|refine Or.inl (fun (_:Unit)=>?_);cbv
 all_goals subst hP hB0 hB1 hB2 hB3 hB4 hB5
 all_goals try exact fin
 all_goals try (exfalso;exact wq1 hp.c ‹_›)
 all_goals try (exfalso;exact wq2 hp.c ‹_›)
 all_goals try (exfalso;exact absurd (show std.eqI 6 0=true by assumption) (by decide))
 all_goals first
  | exact hp.b.gm
  | exact hp.b.own
  | exact wc_wd hp.c
  | exact rfl
def sp_s_WithdrawPlay_n (p:Pr):FSpec:=fsp (a1 (aA aGm)) (fun g=>SwN g) (fun g=>.tup [.agg (gmK gm0 .esl .esl .esl .esl .esl .esl),.i .i64 (wdC g)])
theorem ok_s_WithdrawPlay_n:FOk Tryz.prog 47 (sp_s_WithdrawPlay_n std):=by
 refine FOk.go (c:=cx std [(105,sp_s_l18Begin std),(108,sp_s_l18Own std)] [(137,sp_s_l19Withdraw std)] 0) (cx_ok (.cons ok_s_l18Begin (.cons ok_s_l18Own .nil)) (.cons ok_s_l19Withdraw .nil)) mixed Tryz.func47 rfl rfl rfl (by kernel_rfl) ?_
 rintro g hp
 refine⟨rfl,?_⟩
 unfold sp_s_l18Begin sp_s_l18Own sp_s_l19Withdraw
 generalize hP:std=p,hB0:actC=B0,hB1:wBag=B1,hB2:wRks=B2,hB3:wSs=B3,hB4:wZe=B4,hB5:wOv=B5,hB6:wdC=B6
 cbv
 repeat' first|refine fun (_:Unit)=>?_;cbv|refine aI2 (fun h=>?_) (fun h=>?_)<;>cbv|refine aI2 ?_ ?_|refine Or.inl (fun (_:Unit)=>?_);cbv
 all_goals subst hP hB0 hB1 hB2 hB3 hB4 hB5 hB6
 all_goals try exact fin
 all_goals try (exfalso;exact wn3 hp.c ‹_› ‹_›)
 all_goals try (exfalso;exact absurd (show std.eqI 6 0=true by assumption) (by decide))
 all_goals first
  | exact hp.b.gm
  | exact wn1 ‹_›
  | exact wn2 ‹_› ‹_›
  | skip
def iwG (g:Gm):Gm:=⟨g.ts,g.lex,g.bd0,g.secs,g.rule,⟨g.bd.size,g.bd.prem,g.last.before⟩,wBag g,iRks g,iSs g,g.clocks,g.player,wZe g,⟨3,g.last.player,⟨0,0,false,[]⟩,[],[],0,0⟩,iOv g⟩
section
variable {g:Gm}
theorem iw_eq (h:wdC g=0):iwG g=wdG g:=by
 have hv:=r1_v (act_f (wc_of h).1).v
 have e1:iRks g=wRks g:=(show iRks { g with rule:=1 }=wRks { g with rule:=1 } from i_rks (wc_chf h))
 have e2:=i_ss (wc_chf h)
 have e3:=i_ov (wc_chf h)
 rw [clock0 hv] at e2 e3
 have e2:iSs g=wSs g:=e2
 have e3:iOv g=wOv g:=e3
 unfold iwG wdG
 rw [e1,e2,e3]
theorem wc_wi (h:wdC g=0):WiP g:=by
 have h1:=ch_wi (wc_chf h)
 rw [clock0 (r1_v (act_f (wc_of h).1).v)] at h1
 exact⟨h1.vp,h1.r2,h1.s2,h1.p,h1.st,h1.sd,h1.rl,h1.sp,h1.dr,h1.bag,h1.sc,h1.so,h1.z,⟨fun hb=>by
  have h2:=h1.set.s hb
  exact⟨⟨h2.en.ts,h2.en.rk,h2.en.ck,h2.en.len,h2.en.clk⟩,h2.len,h2.lo,h2.hi⟩⟩⟩
end
def sp_i_WithdrawPlay_y (p:Pr):FSpec:=fsp (a1 (aA aGm)) (fun g=>IwY g) (fun g=>.tup [.agg (gmK ⟨g.ts,g.lex,g.bd0,g.secs,g.rule,⟨g.bd.size,g.bd.prem,g.last.before⟩,wBag g,iRks g,iSs g,g.clocks,g.player,wZe g,⟨3,g.last.player,⟨0,0,false,[]⟩,[],[],0,0⟩,iOv g⟩ (.osl 0) (.osl 1) (.osl 2) (.osl 3) (.osl 4) (.osl 5)),.i .i64 0]) (fun g=>[(0,.own [.i .i64] g.ts.values 2),(1,.own [.i .i64] g.ts.counts 2),(2,.own [.s] g.lex 9),(3,.own [.s] (iRks g) 9),(4,.own [.i .i64] (iSs g) 2),(5,.own [.i .i64] g.clocks 2)])
theorem ok_i_WithdrawPlay_y:FOk Tryz.prog 46 (sp_i_WithdrawPlay_y std):=by
 refine FOk.go (c:=cx std [(99,sp_i_actionCode std),(114,sp_i_copyGame std)] [(136,sp_i_xGame_withdraw std)] 0) (cx_ok (.cons ok_i_actionCode (.cons ok_i_copyGame .nil)) (.cons ok_i_xGame_withdraw .nil)) mixed Tryz.func46 rfl rfl rfl (by kernel_rfl) ?_
 rintro g hp
 refine⟨rfl,?_⟩
 unfold sp_i_actionCode sp_i_copyGame sp_i_xGame_withdraw
 generalize hP:std=p,hB0:actC=B0,hB1:wBag=B1,hB2:iRks=B2,hB3:iSs=B3,hB4:wZe=B4,hB5:iOv=B5
 cbv
 repeat' first|refine fun (_:Unit)=>?_;cbv|refine aI2 (fun h=>?_) (fun h=>?_)<;>cbv|refine aI2 ?_ ?_|refine Or.inl (fun (_:Unit)=>?_);cbv
 all_goals subst hP hB0 hB1 hB2 hB3 hB4 hB5
 all_goals try exact fin
 all_goals try (exfalso;exact wq1 hp.c ‹_›)
 all_goals try (exfalso;exact wq2 hp.c ‹_›)
 all_goals first
  | exact hp.b.gm
  | exact⟨⟨⟨hp.b.cp.v,hp.b.cp.c⟩,hp.b.cp.l⟩,hp.b.cp.r,hp.b.cp.s,hp.b.cp.k⟩
  | exact wc_wi hp.c
  | exact rfl
  | skip
def sp_i_WithdrawPlay_n (p:Pr):FSpec:=fsp (a1 (aA aGm)) (fun g=>IwN g) (fun g=>.tup [.agg (gmK gm0 .esl .esl .esl .esl .esl .esl),.i .i64 (wdC g)])
theorem ok_i_WithdrawPlay_n:FOk Tryz.prog 46 (sp_i_WithdrawPlay_n std):=by
 refine FOk.go (c:=cx std [(99,sp_i_actionCode std),(114,sp_i_copyGame std)] [(136,sp_i_xGame_withdraw std)] 0) (cx_ok (.cons ok_i_actionCode (.cons ok_i_copyGame .nil)) (.cons ok_i_xGame_withdraw .nil)) mixed Tryz.func46 rfl rfl rfl (by kernel_rfl) ?_
 rintro g hp
 refine⟨rfl,?_⟩
 unfold sp_i_actionCode sp_i_copyGame sp_i_xGame_withdraw
 generalize hP:std=p,hB0:actC=B0,hB1:wBag=B1,hB2:iRks=B2,hB3:iSs=B3,hB4:wZe=B4,hB5:iOv=B5,hB6:wdC=B6
 cbv
 repeat' first|refine fun (_:Unit)=>?_;cbv|refine aI2 (fun h=>?_) (fun h=>?_)<;>cbv|refine aI2 ?_ ?_|refine Or.inl (fun (_:Unit)=>?_);cbv
 all_goals subst hP hB0 hB1 hB2 hB3 hB4 hB5 hB6
 all_goals try exact fin
 all_goals try (exfalso;exact wn3 hp.c ‹_› ‹_›)
 all_goals first
  | exact hp.b.gm
  | exact wn1 ‹_›
  | exact wn2 ‹_› ‹_›
  | skip
def sp_s_WithdrawPlay (p:Pr):FSpec:=fsp (a1 (aA aGm)) (fun g=>StC g) (fun g=>.tup [.agg (gmO6 (wdR g)),.i .i64 (wdC g)]) (fun g=>gmH6 (wdR g))
def spSwN (p:Pr):FSpec:=fsp (a1 (aA aGm)) (fun g=>SwN g) (fun g=>.tup [.agg (gmO6 gm0),.i .i64 (wdC g)]) (fun _=>gmH6 gm0)
theorem okSwN:FOk Tryz.prog 47 (spSwN std):=FOk.own ok_s_WithdrawPlay_n rfl fun g w e u h hr=>
 tup_fol (.cons (agg_fol (esl_fol h)) (.cons (fun _ h=>h) .nil)) u hr
theorem ok_s_WithdrawPlay:FOk Tryz.prog 47 (sp_s_WithdrawPlay std):=FOk.casesE ok_s_WithdrawPlay_y okSwN fun g hp=>by
 by_cases hc:wdC g=0
 ·refine .inl ⟨⟨hp,hc⟩,?_,?_⟩
  ·show PV.tup [.agg (gmO6 (wdG g)),.i .i64 0]=.tup [.agg (gmO6 (wdR g)),.i .i64 (wdC g)]
   unfold wdR
   rw [if_pos hc,hc]
  ·show gmH6 (wdG g)=gmH6 (wdR g)
   unfold wdR
   rw [if_pos hc]
 ·refine .inr ⟨⟨hp,hc⟩,?_,?_⟩
  ·show PV.tup [.agg (gmO6 gm0),.i .i64 (wdC g)]=.tup [.agg (gmO6 (wdR g)),.i .i64 (wdC g)]
   unfold wdR
   rw [if_neg hc]
  ·show gmH6 gm0=gmH6 (wdR g)
   unfold wdR
   rw [if_neg hc]
def sp_i_WithdrawPlay (p:Pr):FSpec:=fsp (a1 (aA aGm)) (fun g=>ChP g) (fun g=>.tup [.agg (gmO6 (wdR g)),.i .i64 (wdC g)]) (fun g=>gmH6 (wdR g))
def spIwN (p:Pr):FSpec:=fsp (a1 (aA aGm)) (fun g=>IwN g) (fun g=>.tup [.agg (gmO6 gm0),.i .i64 (wdC g)]) (fun _=>gmH6 gm0)
theorem okIwN:FOk Tryz.prog 46 (spIwN std):=FOk.own ok_i_WithdrawPlay_n rfl fun g w e u h hr=>
 tup_fol (.cons (agg_fol (esl_fol h)) (.cons (fun _ h=>h) .nil)) u hr
theorem ok_i_WithdrawPlay:FOk Tryz.prog 46 (sp_i_WithdrawPlay std):=FOk.casesE ok_i_WithdrawPlay_y okIwN fun g hp=>by
 by_cases hc:wdC g=0
 ·refine .inl ⟨⟨hp,hc⟩,?_,?_⟩
  ·show PV.tup [.agg (gmO6 (iwG g)),.i .i64 0]=.tup [.agg (gmO6 (wdR g)),.i .i64 (wdC g)]
   unfold wdR
   rw [if_pos hc,hc,iw_eq hc]
  ·show gmH6 (iwG g)=gmH6 (wdR g)
   unfold wdR
   rw [if_pos hc,iw_eq hc]
 ·refine .inr ⟨⟨hp,hc⟩,?_,?_⟩
  ·show PV.tup [.agg (gmO6 gm0),.i .i64 (wdC g)]=.tup [.agg (gmO6 (wdR g)),.i .i64 (wdC g)]
   unfold wdR
   rw [if_neg hc]
  ·show gmH6 gm0=gmH6 (wdR g)
   unfold wdR
   rw [if_neg hc]
def sp_i_WithdrawPlayF (p:Pr):FSpec:=fsp (a1 (aA aGm)) (fun g=>ChP g) (fun g=>.tup [.agg (gmR (wdR g)),.i .i64 (wdC g)])
theorem ok_i_WithdrawPlayF:FOk Tryz.prog 46 (sp_i_WithdrawPlayF std):=FOk.frz ok_i_WithdrawPlay fun g=>⟨by simp [deep,deeps,AH.get,gmH6,gmO6,gmK,gmR],by simp [PV.idIn,idInL,gmK,gmR]⟩
def sp_s_WithdrawPlayF (p:Pr):FSpec:=fsp (a1 (aA aGm)) (fun g=>StC g) (fun g=>.tup [.agg (gmR (wdR g)),.i .i64 (wdC g)])
theorem ok_s_WithdrawPlayF:FOk Tryz.prog 47 (sp_s_WithdrawPlayF std):=FOk.frz ok_s_WithdrawPlay fun g=>⟨by simp [deep,deeps,AH.get,gmH6,gmO6,gmK,gmR],by simp [PV.idIn,idInL,gmK,gmR]⟩
def rGc:NRes (Gm×Int):=⟨fun _ l=>match l with
 | [.agg c,.i .i64 n]=>both' (gmOf c) (some n)
 | _=>none,fun _=>[],fun a=>.tup [.agg (gmR a.1),.i .i64 a.2]⟩
def sp_i_WithdrawPlayN (_:Pr):NSpec:=nsp (mN (a1 (aA aGm))) (fun g=>ChP g) (fun _=>rGc) (fun g x=>x=(wdR g,wdC g))
theorem ok_i_WithdrawPlayN:NOk Tryz.prog 46 (sp_i_WithdrawPlayN std):=NOk.ofF (B:=rGc) (f:=fun a:Gm=>(wdR a,wdC a)) ok_i_WithdrawPlayF (fun _=>rfl) (fun _=>rfl)
def sp_s_WithdrawPlayN (_:Pr):NSpec:=nsp (mN (a1 (aA aGm))) (fun g=>StC g) (fun _=>rGc) (fun g x=>x=(wdR g,wdC g))
theorem ok_s_WithdrawPlayN:NOk Tryz.prog 47 (sp_s_WithdrawPlayN std):=NOk.ofF (B:=rGc) (f:=fun a:Gm=>(wdR a,wdC a)) ok_s_WithdrawPlayF (fun _=>rfl) (fun _=>rfl)
set_option maxHeartbeats 2000000
section
variable {g:Gm} {q:Pl} {n:Int}
theorem tn_1 (hc:turnC g q n=0) (ho:(turnR g q n).over =false):turnR g q n=turn1 g q n:=by
 unfold turnR at ho ⊢
 rw [if_pos hc] at ho ⊢
 unfold turnG at ho ⊢
 split
 ·rename_i h;rw [if_pos h] at ho;cases ho
 ·rfl
theorem set_at {α:Type} {l:List α} {p:Int} {x d:α} (hp:0≤p∧p≤1) (hl:l.length=2):(l.set p.toNat x).getD p.toNat d=x:=by
 rw [List.getD_eq_getElem?_getD,List.getElem?_set_self (by omega)];rfl
theorem set_get {α:Type} {l:List α} {p:Int} {d:α} (hp:0≤p∧p≤1) (hl:l.length=2):l.set p.toNat (l.getD p.toNat d)=l:=by
 rw [List.getD_eq_getElem?_getD,List.getElem?_eq_getElem (show p.toNat<l.length by omega)]
 exact List.set_getElem_self _
theorem tn_act (hc:turnC g q n=0) (hv:gameB (turn1 g q n)=true):actC (turn1 g q n) 0=0:=by
 have ht:=trn_f hc
 have hx:=gv_of hv
 have hp:=in_bd ht.a.v.pl
 have hl:=ht.a.v.sl
 have hs:=ht.hi
 have hlo:=ht.lo
 have h0:=ht.a.s0
 have h1:=ht.a.s1
 have k0:=hx.s0
 have k1:=hx.s1
 unfold sideB at k0 k1
 simp only [Bool.and_eq_true] at k0 k1
 have c0:=in_bd k0.2.2
 have c1:=in_bd k1.2.2
 have sc : ∀k:Int,0≤k∧k≤1→inR ((turn1 g q n).sc k) (-50000) 50000=true:=fun k hk=>by
  refine in_mk ?_
  show -50000≤((g.scores.set g.player.toNat (g.sc g.player+scoreI g.ts g.bd q)).getD k.toNat 0)∧((g.scores.set g.player.toNat (g.sc g.player+scoreI g.ts g.bd q)).getD k.toNat 0)≤50000
  have hg : ∀j:Int,0≤j∧j≤1→ -50000≤g.sc j∧g.sc j≤50000:=fun j hj=>by
   rcases (show j=0∨j=1 by omega) with e | e<;>rw [e]
   ·exact h0
   ·exact h1
  by_cases e:k=g.player
  ·rw [e,set_at hp hl]
   have:=hg _ hp
   omega
  ·rw [List.getD_eq_getElem?_getD,List.getElem?_set_ne (by omega),←List.getD_eq_getElem?_getD]
   exact hg k hk
 have ck : -36000≤(turn1 g q n).clk (turn1 g q n).player - 0:=by
  have hq:0≤(turn1 g q n).player ∧(turn1 g q n).player ≤1:=in_bd hx.pl
  generalize (turn1 g q n).player =p at *
  rcases (show p=0∨p=1 by omega) with e | e<;>rw [e]
  ·show -36000≤(turn1 g q n).clocks.getD 0 0-0
   omega
  ·show -36000≤(turn1 g q n).clocks.getD 1 0-0
   omega
 unfold actC
 rw [hv,if_pos rfl,show (turn1 g q n).over =false from ht.a.ov,if_neg (by decide),decide_eq_true ck,show inR 0 0 36000=true from rfl,sc 0 (by decide),sc 1 (by decide)]
 rfl
theorem tn_play (hv:gameB (turn1 g q n)=true):playOk (turn1 g q n)=true:=by
 have h:=(gv_of hv).la
 unfold lastOk at h
 have hk:(turn1 g q n).last.kind =1:=rfl
 rw [if_neg (by omega),if_neg (by omega),if_pos hk] at h
 exact h
structure Undo (g x:Gm):Prop where
 bd:x.bd=g.bd
 bag:x.bag=g.bag
 rk:x.racks=g.racks
 pl:x.player=1-g.player
 ze:x.zeros=g.zeros+1
 ov:x.over=(g.zeros+1==6)
 sc:x.over=false→x.scores=g.scores
theorem tn_undo (hc:turnC g q n=0) (hf:FullR g) (ho:(turnR g q n).over =false):wdC (turnR g q n)=0∧Undo g (wdR (turnR g q n)):=by
 have hv:=turn_ok hc hf
 rw [tn_1 hc ho] at hv ⊢
 have ht:=trn_f hc
 have ha:=tn_act hc hv
 have hw:wdC (turn1 g q n)=0:=by
  unfold wdC
  rw [if_pos ha,if_pos (show (turn1 g q n).last.kind =1 from rfl)]
 refine⟨hw,?_⟩
 have e:wdR (turn1 g q n)=wdG (turn1 g q n):=by
  unfold wdR
  rw [if_pos hw]
 rw [e]
 have hp:=in_bd ht.a.v.pl
 have hx:=gv_of hv
 have hA:=act_f ha
 have hW:=gv_of (wd_ok hx hA.ov (tn_play hv) ⟨⟨by have:=hA.s0.1;omega,by have:=hA.s0.2;omega⟩,⟨by have:=hA.s1.1;omega,by have:=hA.s1.2;omega⟩⟩)
 have b1:(wdG (turn1 g q n)).bd =g.bd:=by
  have e1:(turn1 g q n).bd.size =g.bd.size:=hx.sz.trans ht.a.v.sz.symm
  have e2:(turn1 g q n).bd.prem =g.bd.prem:=hx.pm.trans ht.a.v.pm.symm
  show Bd.mk (turn1 g q n).bd.size (turn1 g q n).bd.prem g.bd.cells=g.bd
  rw [e1,e2]
 have b2:(wdG (turn1 g q n)).bag =g.bag:=List.take_append_drop _ _
 have b3:(wdG (turn1 g q n)).racks =g.racks.set g.player.toNat (wRack (turn1 g q n)):=by
  show (g.racks.set g.player.toNat _).set g.player.toNat _=_
  rw [List.set_set]
 have hr:wRack (turn1 g q n)=g.racks.getD g.player.toNat []:=by
  have h1:=hW.ti
  have h2:=ht.a.v.ti
  have h3:isort (((tilesS (lettersS g.bd)++(g.racks.set g.player.toNat (wRack (turn1 g q n))).getD 0 [])++(g.racks.set g.player.toNat (wRack (turn1 g q n))).getD 1 [])++g.bag)=gameTiles g:=by
   rw [h2,←b3,←b1,←b2];exact h1
  unfold gameTiles at h3
  have hcnt : ∀c,(wRack (turn1 g q n)).count c=(g.racks.getD g.player.toNat []).count c:=fun c=>by
   have h4:=congrArg (List.count c) h3
   rw [isort_count,isort_count] at h4
   simp only [List.count_append] at h4
   have hl:=ht.a.v.rl
   rcases (show g.player=0∨g.player=1 by omega) with e | e
   ·rw [e] at h4 ⊢
    have q1:(g.racks.set (0:Int).toNat (wRack (turn1 g q n))).getD 0 []=wRack (turn1 g q n):=set_at (p:=0) (by decide) hl
    have q2:(g.racks.set (0:Int).toNat (wRack (turn1 g q n))).getD 1 []=g.racks.getD 1 []:=by
     rw [List.getD_eq_getElem?_getD,List.getElem?_set_ne (by decide),←List.getD_eq_getElem?_getD]
    rw [q1,q2] at h4
    show List.count c (wRack (turn1 g q n))=List.count c (g.racks.getD 0 [])
    omega
   ·rw [e] at h4 ⊢
    have q1:(g.racks.set (1:Int).toNat (wRack (turn1 g q n))).getD 1 []=wRack (turn1 g q n):=set_at (p:=1) (by decide) hl
    have q2:(g.racks.set (1:Int).toNat (wRack (turn1 g q n))).getD 0 []=g.racks.getD 0 []:=by
     rw [List.getD_eq_getElem?_getD,List.getElem?_set_ne (by decide),←List.getD_eq_getElem?_getD]
    rw [q1,q2] at h4
    show List.count c (wRack (turn1 g q n))=List.count c (g.racks.getD 1 [])
    omega
  have h5:=isort_unique (isort_asc (wRest (turn1 g q n)++wTil (turn1 g q n))) hcnt
  have h6:=isort_unique (rackB_asc (rk_p ht.a.v hp.1 hp.2)).2 (fun c=>rfl)
  exact h5.trans h6.symm
 refine⟨b1,b2,?_,rfl,rfl,?_,fun h=>?_⟩
 ·rw [b3,hr];exact set_get hp ht.a.v.rl
 ·show ((turn1 g q n).over ||(g.zeros+1==6))=_
  rw [hA.ov];rfl
 ·have hE:wEnd (turn1 g q n)=false:=by
   have h7:((turn1 g q n).over ||wEnd (turn1 g q n))=false:=h
   rw [hA.ov] at h7;exact h7
  show wSs (turn1 g q n)=g.scores
  unfold wSs
  rw [hE,if_neg (by decide)]
  show (g.scores.set g.player.toNat _).set g.player.toNat ((g.scores.set g.player.toNat (g.sc g.player+scoreI g.ts g.bd q)).getD g.player.toNat 0-scoreI g.ts g.bd q)=g.scores
  rw [List.set_set,set_at hp ht.a.v.sl,show g.sc g.player+scoreI g.ts g.bd q-scoreI g.ts g.bd q=g.sc g.player by omega]
  exact set_get hp ht.a.v.sl
end
end Ax
end Go.Proofs.YtjjonmhpgkahoaaGreatDoor
