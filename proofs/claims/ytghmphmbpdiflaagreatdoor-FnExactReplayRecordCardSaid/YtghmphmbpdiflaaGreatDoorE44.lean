/-
  What a record leads to, of the impl package; What a record leads to, of the impl package: what does not begin; Records, of the impl package: where they end; The laws package: records: sizes, what is handed on, whether the same; What setups and records come in as; The laws package: marks laid into rows, tile sets, games; The laws package: marks laid into records.
  Conditions: none.
-/
import Derived.Test.YtghmphmbpdiflaaGreatDoorE43
import Derived.Test.YtghmphmbpdiflaaGreatDoorE36
import Derived.Test.YtghmphmbpdiflaaGreatDoorE18
import Derived.Test.YtghmphmbpdiflaaGreatDoorE29
set_option linter.unusedSimpArgs false
set_option linter.unusedVariables false
namespace Go.Proofs.YtghmphmbpdiflaaGreatDoor
namespace Ax
set_option maxRecDepth 100000
set_option maxHeartbeats 20000000
def scE (x:El shG):List Int:=x.2.2.2.2.2.2.2.2.2.2.2.2.2.2.2.1
def runZ:Gm→List (El shAc)→Gm
 | g,[]=>g
 | g,x::l=>if doC g (acE x)=0 then runZ (doG g (acE x)) l else g
section
variable {g x:Gm} {a:Ac} {u:Su} {r:Rcd} {k:Int} {S:List (List Int)} {P:List Int}
theorem actC_1 {n:Int} (h:gameB g=false):actC g n=1:=by unfold actC;rw [h];rfl
theorem daC_eq (h:actB a=true):daC g a=doC g a:=by
 unfold daC
 cases hg:gameB g with
 | true=>rw [h];rfl
 | false=>
   have h1 : ∀n,actC g n=1:=fun n=>actC_1 hg
   rw [Bool.false_and,if_neg (by decide)]
   unfold doC turnC xtC chC
   simp only [h1]
   split
   ·rfl
   ·split
    ·split<;>rfl
    ·split<;>rfl
theorem da_0 (h:daC g a=0):daR g a=doG g a∧daP g a=doP g a:=by
 unfold daC at h
 unfold daR daP
 split at h
 ·rename_i hc
  rw [if_pos hc,if_pos hc];exact⟨rfl,rfl⟩
 ·cases h
theorem runZ_cons (x:Gm) (y:El shAc) (l:List (El shAc)):runZ x (y::l)=if doC x (acE y)=0 then runZ (doG x (acE y)) l else x:=by rw [runZ]
structure RpJ (g:Gm) (r:Rcd) (k:Int) (S:List (List Int)) (P:List Int) (x:Gm):Prop where
 j : ∃L,RunJ g r k L P x∧S=L.map scE
 z:runZ x (r.acts.drop k.toNat)=runZ g r.acts
def rpS (g:Gm) (r:Rcd):List (List Int):=(ruL g r).map scE
def rpZ (g:Gm) (r:Rcd):Gm:=runZ g r.acts
def rpI (g:Gm) (r:Rcd):Int:=if ruC g r=0 then -1 else ((ruL g r).length : Int)
theorem rp_0 (h:RunL g r):RpJ g r 0 [] [] g:=⟨⟨[],run_0 h,rfl⟩,rfl⟩
theorem RpJ.lo (h:RpJ g r k S P x):0≤k:=by obtain⟨L,hj, -⟩:=h.j;exact hj.lo
theorem RpJ.l (h:RpJ g r k S P x):(S.length:Int)=k∧(P.length:Int)=k:=by
 obtain⟨L,hj,rfl⟩:=h.j
 rw [List.length_map]
 exact hj.l
structure RpE (g:Gm) (r:Rcd) (S:List (List Int)) (P:List Int) (x:Gm) (I C:Int):Prop where
 s:S=rpS g r
 p:P=ruP g r
 z:x=rpZ g r
 i:I=rpI g r
 c:C=ruC g r
theorem rp_no (hk:RpJ g r k S P x) (hlt:k<r.acts.length) (ha:actB (acN r k)=true) (hc:daC x (acN r k)≠0):RpE g r S P x k (daC x (acN r k)):=by
 obtain⟨L,hj,rfl⟩:=hk.j
 rw [daC_eq ha] at hc ⊢
 obtain⟨e1,e2,e3⟩:=run_no hj hlt hc
 have hz:=hk.z
 have hc1 : ¬doC x (acE (r.acts.getD k.toNat (dE shAc)))=0:=hc
 rw [dc hj.lo hlt (dE shAc),runZ_cons,if_neg hc1] at hz
 refine⟨by rw [e1];rfl,e2,hz,?_,e3⟩
 unfold rpI
 rw [if_neg (by rw [←e3];exact hc),←e1]
 exact hj.l.1.symm
theorem rp_yes (hk:RpJ g r k S P x) (hlt:k<r.acts.length) (ha:actB (acN r k)=true) (hc:daC x (acN r k)=0) (hr:RcL r):RpJ g r (k+1) (S++[(daR x (acN r k)).scores]) (P++[daP x (acN r k)]) (daR x (acN r k)):=by
 obtain⟨L,hj,rfl⟩:=hk.j
 rw [(da_0 hc).1,(da_0 hc).2]
 rw [daC_eq ha] at hc
 refine⟨⟨L++[gE (doG x (acN r k))],run_yes hj hlt hc hr,?_⟩,?_⟩
 ·rw [List.map_append];rfl
 ·have hz:=hk.z
  have hc1:doC x (acE (r.acts.getD k.toNat (dE shAc)))=0:=hc
  rw [dc hj.lo hlt (dE shAc),runZ_cons,if_pos hc1] at hz
  exact hz
theorem rp_end (hk:RpJ g r k S P x) (hge:(r.acts.length:Int)≤k):RpE g r S P x (-1) 0:=by
 obtain⟨L,hj,rfl⟩:=hk.j
 obtain⟨e1,e2,e3⟩:=run_end hj hge
 have hz:=hk.z
 rw [dn hge] at hz
 refine⟨by rw [e1];rfl,e2,hz,?_,e3⟩
 unfold rpI
 rw [if_pos e3.symm]
theorem rp_do (hk:RpJ g r k S P x) (hr:RcL r):DiP x (acN r k):=by
 obtain⟨L,hj, -⟩:=hk.j
 have h1:=hr.a k
 have hs:=hj.b.q (q:=⟨0,0,false,[]⟩) (by decide) (by decide)
 exact⟨hs.gm,hs.cp,by have:=h1.w;omega,by have:=h1.t;omega⟩
theorem rc_acts (h:rcB r=true) (h0:0≤k) (hlt:k<r.acts.length):actB (acN r k)=true:=by
 unfold rcB at h
 rw [Bool.and_eq_true] at h
 have h1:=h.1
 unfold rcA at h1
 rw [List.all_eq_true] at h1
 have hl:k.toNat<r.acts.length:=by omega
 have:=h1 (r.acts.getD k.toNat (dE shAc)) (by rw [List.getD_eq_getElem?_getD,List.getElem?_eq_getElem hl];exact List.getElem_mem hl)
 exact this
theorem RpL.sq (h:RpL u r):SuQ u:=by
 have h1:=h.su.ts
 have h2:=h.su.lx
 exact⟨ts_l h1 (by decide),⟨by have:=h2.l;omega,fun k=>by have:=h2.w k;omega⟩,bd_p h.su.bd (by decide)⟩
theorem RpL.sc (h:RpL u r):SuC u:=⟨⟨by have:=h.su.ts.v;omega,by have:=h.su.ts.c;omega⟩,by have:=h.su.lx.l;omega⟩
theorem RpL.rq (h:RpL u r):RcQ r:=⟨h.rc.n,fun k=>⟨by have:=(h.rc.a k).w;omega,by have:=(h.rc.a k).t;omega⟩⟩
structure RyP (u:Su) (r:Rcd):Prop where
 q:RpL u r
 c:bgC u r=0
structure RnP (u:Su) (r:Rcd):Prop where
 q:RpL u r
 c:bgC u r≠0
theorem ry_f (h:RyP u r):suB u=true∧rcB r=true∧bgnC u (shufL (allT u.ts) r.seed)=0:=by
 have hc:=h.c
 unfold bgC at hc
 split at hc
 ·rename_i h1
  rw [Bool.and_eq_true] at h1
  exact⟨h1.1,h1.2,hc⟩
 ·cases hc
theorem ry1 (h:RyP u r) (h2:suB u=false):False:=by rw [(ry_f h).1] at h2;cases h2
theorem ry2 (h:RyP u r) (h2:rcB r=false):False:=by rw [(ry_f h).2.1] at h2;cases h2
theorem ry_b (h:RyP u r):sbS u.ts r.seed=shufL (allT u.ts) r.seed:=by
 have h1:=(ry_f h).2.1
 unfold rcB rcT at h1
 simp only [Bool.and_eq_true] at h1
 exact (sb_0 (su_ts (ry_f h).1) h1.2.1).2
theorem ry3 (h:RyP u r) (h2:std.eqI (bgnC u (sbS u.ts r.seed)) 0=false):False:=by
 rw [ry_b h,(ry_f h).2.2] at h2;cases h2
theorem ry_g (h:RyP u r):bgnR u (sbS u.ts r.seed)=bgG u r:=by
 rw [ry_b h];exact if_pos (ry_f h).2.2
end
def sp_cloneNF (p:Pr):FSpec:=fsp (a1 aN) (fun l=>p.leP (p.len l) 1073741824) (fun l=>.rsl [.i .i64] l)
theorem ok_cloneNF:FOk Tryz.prog 206 (sp_cloneNF std):=FOk.frz ok_cloneN fun l=>⟨by simp [deep,deeps,AH.get],by simp [PV.idIn,idInL]⟩
def rpK (g:Gm) (s p:PV) (i c:Int):List PV:=gmR g++[s,p,.i .i64 i,.i .i64 c]
@[reducible] def rpV:List LV:=LV.s 48 (.i .i64)::LV.c 4 0 .s ::LV.c 4 1 (.r [.i .i64])::LV.c 4 2 (.r [.i .i64])::LV.c 4 3 (.i .i64)::LV.c 4 4 (.r [.s])::LV.c 4 5 (.i .i64)::LV.c 4 6 .s ::LV.c 4 7 .s ::LV.c 4 8 (.i .i64)::LV.c 4 9 (.i .i64)::LV.c 4 10 (.i .i64)::LV.c 4 11 .s ::LV.c 4 12 .s ::LV.c 4 13 .s ::LV.c 4 14 (.r [.s])::LV.c 4 15 (.r [.i .i64])::LV.c 4 16 (.r [.i .i64])::LV.c 4 17 (.i .i64)::LV.c 4 18 (.i .i64)::LV.c 4 19 (.i .i64)::LV.c 4 20 (.i .i64)::LV.c 4 21 (.i .i64)::LV.c 4 22 (.i .i64)::LV.c 4 23 .b ::LV.c 4 24 .s ::LV.c 4 25 .s ::LV.c 4 26 .s ::LV.c 4 27 (.i .i64)::LV.c 4 28 (.i .i64)::LV.c 4 29 .b ::LV.o 5 [.r [.i .i64]]::LV.o 6 [.i .i64]::[]
end Ax
namespace Ax
set_option maxRecDepth 100000
set_option maxHeartbeats 20000000
theorem rn1 {u:Su} {r:Rcd} (h:RnP u r) (h1:suB u=true) (h2:rcB r=true) (h3:std.eqI (bgnC u (sbS u.ts r.seed)) 0=true):False:=by
 have e:bgC u r=bgnC u (shufL (allT u.ts) r.seed):=if_pos (by rw [h1,h2];rfl)
 have h4:=h2
 unfold rcB rcT at h4
 simp only [Bool.and_eq_true] at h4
 rw [(sb_0 (su_ts h1) h4.2.1).2] at h3
 exact h.c (e.trans (eqI_t h3))
theorem rn_b {u:Su} {r:Rcd} (h1:suB u=true) (h2:rcB r=true):sbS u.ts r.seed=shufL (allT u.ts) r.seed∧bgC u r=bgnC u (sbS u.ts r.seed):=by
 have h4:=h2
 unfold rcB rcT at h4
 simp only [Bool.and_eq_true] at h4
 have e:=(sb_0 (su_ts h1) h4.2.1).2
 exact⟨e,by rw [e];exact if_pos (by rw [h1,h2];rfl)⟩
def rp0:List PV:=gmK gm0 .esl .esl .esl .esl .esl .esl ++[.esl,.esl,.i .i64 0,.i .i64 0]
def sp_i_replayed_n (p:Pr):FSpec:=fsp (ac (aA aSu) (a1 (aA aRcd))) (fun (u,r)=>RnP u r) (fun (u,r)=>.tup [.agg rp0,.i .i64 (bgC u r)])
theorem ok_i_replayed_n:FOk Tryz.prog 184 (sp_i_replayed_n std):=by
 refine FOk.go (c:=cx std [(12,sp_i_ValidSetup std),(229,sp_i_ValidRecord std),(230,sp_i_ShuffleBag std),(9,sp_i_StartGameF std),(231,sp_i_DoActionF std),(206,sp_cloneNF std)] [] 0) (cx_ok (.cons ok_i_ValidSetup (.cons ok_i_ValidRecord (.cons ok_i_ShuffleBag (.cons ok_i_StartGameF (.cons ok_i_DoActionF (.cons ok_cloneNF .nil)))))) .nil) mixed Tryz.func184 rfl rfl rfl (by kernel_rfl) ?_
 rintro ⟨u,r⟩ hp
 dsimp only at hp
 refine⟨rfl,?_⟩
 unfold sp_i_ValidSetup sp_i_ValidRecord sp_i_ShuffleBag sp_i_StartGameF sp_i_DoActionF sp_cloneNF
 obtain⟨H,hH⟩ : ∃H:Hd (Int×List UInt8×List Int×List Int×Int×List (List UInt8)×Int×List UInt8×List UInt8×Int×Int×Int×List UInt8×List UInt8×List UInt8×List (List UInt8)×List Int×List Int×Int×Int×Int×Int×Int×Int×Bool×List UInt8×List UInt8×List UInt8×Int×Int×Bool×List (List Int)×List Int),H=⟨fun (k,x0,x1,x2,x3,x4,x5,x6,x7,x8,x9,x10,x11,x12,x13,x14,x15,x16,x17,x18,x19,x20,x21,x22,x23,x24,x25,x26,x27,x28,x29,S,P)=>False,fun (k,x0,x1,x2,x3,x4,x5,x6,x7,x8,x9,x10,x11,x12,x13,x14,x15,x16,x17,x18,x19,x20,x21,x22,x23,x24,x25,x26,x27,x28,x29,S,P)=>0,(· < ·)⟩:=⟨_,rfl⟩
 have hl : ∀m n,H.lt m n→m<n:=by subst hH;exact fun _ _ h=>h
 generalize hP:std=p,hB0:suB=B0,hB1:rcB=B1,hB2:sbS=B2,hB3:sbC=B3,hB4:bgnR=B4,hB5:bgnC=B5,hB6:bgC=B6,hB7:daR=B7,hB8:daP=B8,hB9:daC=B9
 cbv
 repeat' first
  | (refine fun (_:Unit)=>?_;cbv)
  | (refine Or.inr ⟨49,[(.c 4 30,[.r [.i .i64]],24),(.c 4 31,[.i .i64],2)],rpV,[.c 4 30,.c 4 31],[],H,rfl,hl,?_,fun ((k,x0,x1,x2,x3,x4,x5,x6,x7,x8,x9,x10,x11,x12,x13,x14,x15,x16,x17,x18,x19,x20,x21,x22,x23,x24,x25,x26,x27,x28,x29,S,P):Int×List UInt8×List Int×List Int×Int×List (List UInt8)×Int×List UInt8×List UInt8×Int×Int×Int×List UInt8×List UInt8×List UInt8×List (List UInt8)×List Int×List Int×Int×Int×Int×Int×Int×Int×Bool×List UInt8×List UInt8×List UInt8×Int×Int×Bool×List (List Int)×List Int) hk=>?_⟩<;>cbv)
  | (refine aI2 (fun h=>?_) (fun h=>?_)<;>cbv)
  | (refine aI2 ?_ ?_)
 all_goals subst hP hB0 hB1 hB2 hB3 hB4 hB5 hB6 hB7 hB8 hB9 hH
 all_goals clear hl
 all_goals try dsimp only at hk
 all_goals try dsimp only
 all_goals try (exfalso;exact hk)
 all_goals try (exfalso;exact rn1 hp ‹_› ‹_› ‹_›)
 all_goals try exact fin
 all_goals try (have h1:suB u=true:=by assumption)
 all_goals try (have h2:rcB r=true:=by assumption)
 ·exact hp.q.sq
 ·exact hp.q.rq
 ·have h2:rcB r=false:=by assumption
  exact (bg_1 (u:=u) (r:=r) (by rw [h1,h2];rfl)).1.symm
 ·exact hp.q.sq.ts
 ·exact (⟨hp.q.sq,hp.q.sc,by rw [(rn_b h1 h2).1];exact Nat.le_trans (bag_bd h1 _) (by decide)⟩:SiL u (sbS u.ts r.seed))
 ·exact (rn_b h1 h2).2.symm
 ·have h1:suB u=false:=by assumption
  exact (bg_1 (u:=u) (r:=r) (by rw [h1];rfl)).1.symm
end Ax
namespace Ax
set_option maxRecDepth 100000
set_option maxHeartbeats 20000000
end Ax
namespace Ax
set_option maxRecDepth 100000
set_option maxHeartbeats 2000000
def aAS:Arg (List (El shAc)):=⟨fun | .rsl [.i .i64,.i .i64,.i .i64,.b,.s,.s,.i .i64] L=>some L | _=>none,.rsl shAc,fun x a h=>by split at h<;>cases h;rfl⟩
def szAL (x:El shAc):List Int:=[((acE x).play.word.length : Int),((acE x).tiles.length : Int)]
def szAS (n:Int) (L:List (El shAc)):Int:=szL n ((L.length:Int)::L.flatMap szAL)
def restA (n:Int) (L:List (El shAc)) (k:Int):Int:=szL n ((L.drop k.toNat).flatMap szAL)
theorem restA_step {m k:Int} {L:List (El shAc)} (h0:0≤k) (h:k<L.length):restA m L k=restA (szA m (acE (L.getD k.toNat (dE shAc)))) L (k+1):=by
 unfold restA
 rw [dc h0 h (dE shAc),List.flatMap_cons,szL_app];rfl
theorem restA_neg (L:List (El shAc)) (k:Int):restA (-1) L k= -1:=szL_neg _
theorem szA_ge {n:Int} (h:0≤n) (a:Ac) : -1≤szA n a:=szL_ge (szL_ge (by omega) _) _
theorem szA_le {n:Int} {a:Ac} (h:0≤szA n a):szA n a≤n:=(zA h).2.1
structure AsZ (L:List (El shAc)):Prop where
 n:(L.length:Int)≤9223372036854775807
 a : ∀x∈L,AcZ (acE x)
theorem AsZ.at {L:List (El shAc)} (h:AsZ L) {k:Int} (h0:0≤k) (h1:k<L.length):AcZ (acE (L.getD k.toNat (dE shAc))):=
 h.a _ (by rw [List.getD_eq_getElem?_getD,List.getElem?_eq_getElem (by omega)];exact List.getElem_mem (by omega))
def sp_l_szActionS (p:Pr):FSpec:=fsp (ac aAS (a1 aI)) (fun (L,n)=>NL n∧AsZ L) (fun (L,n)=>.i .i64 (szAS n L))
theorem ok_l_szActionS:FOk Tryz.prog 102 (sp_l_szActionS std):=by
 refine FOk.go (c:=cx std [(178,sp_l_szAction std)] [] 0) (cx_ok (.cons ok_l_szAction .nil) .nil) mixed Tryz.func102 rfl rfl rfl (by kernel_rfl) ?_
 rintro ⟨L,n⟩ hp
 dsimp only at hp
 refine⟨rfl,?_⟩
 unfold sp_l_szAction
 obtain⟨H,hH⟩ : ∃H:Hd (Int×Int),H=⟨fun (m,k)=>0≤k∧k≤L.length∧NL m∧szAS n L=restA m L k,fun (m,k)=>(L.length-k).toNat,(· < ·)⟩:=⟨_,rfl⟩
 have hl : ∀m n,H.lt m n→m<n:=by subst hH;exact fun _ _ h=>h
 generalize hP:std=p,hB0:szAS=B0,hB1:restA=B1,hB2:szA=B2
 cbv
 repeat' first
  | (refine fun (_:Unit)=>?_;cbv)
  | (refine Or.inr ⟨12,[],[.s 1 (.i .i64),.s 5 (.i .i64)],[],[],H,rfl,hl,?_,fun ((m,k):Int×Int) hk=>?_⟩<;>cbv)
  | (refine aI2 (fun h=>?_) (fun h=>?_)<;>cbv)
  | (refine aI2 ?_ ?_)
 all_goals subst hP hB0 hB1 hB2 hH
 all_goals clear hl
 all_goals try dsimp only at hk
 all_goals try dsimp only
 all_goals try exact fin
 all_goals obtain⟨⟨n0,n1⟩,hz⟩:=hp
 all_goals have h3:(L.length:Int)≤9223372036854775807:=hz.n
 ·exact in64 (by show _≤n-(L.length:Int)∧n-(L.length:Int)≤_;omega)
 ·have h4:n-(L.length:Int)<0:=lt_of h
  rw [szAS,szL_cons,szL_one n0,if_pos h4,szL_neg]
 ·have h4:0≤n-(L.length:Int):=ge_of h
  refine⟨Int.le_refl 0,Int.natCast_nonneg _,⟨h4,by show n-(L.length:Int)≤_;omega⟩,?_⟩
  rw [szAS,szL_cons,szL_one n0,if_neg (by omega)];rfl
 all_goals obtain⟨q0,q1,⟨m0,m1⟩,e⟩:=hk
 all_goals try (have hlt:k<(L.length:Int):=lt_of ‹_›)
 ·exact hz.at q0 hlt
 ·have hs:szA m (acE (L.getD k.toNat (dE shAc)))= -1:=m_eq (szA_ge m0 _) h
  rw [e,restA_step q0 hlt,hs,restA_neg]
 ·exact in64 (by show _≤k+1∧k+1≤_;omega)
 ·have h5:0≤szA m (acE (L.getD k.toNat (dE shAc))):=ge_of h
  refine⟨by show 0≤k+1;omega,by show k+1≤(L.length:Int);omega,⟨h5,Int.le_trans (szA_le h5) m1⟩,?_⟩
  rw [e,restA_step q0 hlt];rfl
 ·rw [e,restA,dn (ge_of h)];rfl
def szR (n:Int) (r:Rcd):Int:=szAS n r.acts
def sp_l_szRecord (p:Pr):FSpec:=fsp (ac (aA aRcd) (a1 aI)) (fun (r,n)=>NL n∧AsZ r.acts) (fun (r,n)=>.i .i64 (szR n r))
theorem ok_l_szRecord:FOk Tryz.prog 38 (sp_l_szRecord std):=by
 refine FOk.go (c:=cx std [(102,sp_l_szActionS std)] [] 0) (cx_ok (.cons ok_l_szActionS .nil) .nil) mixed Tryz.func38 rfl rfl rfl (by kernel_rfl) ?_
 rintro ⟨r,n⟩ hp
 dsimp only at hp
 refine⟨rfl,?_⟩
 unfold sp_l_szActionS
 generalize hP:std=p,hB0:szR=B0,hB1:szAS=B1
 cbv
 repeat' first
  | (refine fun (_:Unit)=>?_;cbv)
  | (refine aI2 (fun h=>?_) (fun h=>?_)<;>cbv)
  | (refine aI2 ?_ ?_)
  | (refine Or.inl (fun (_:Unit)=>?_);cbv)
 all_goals subst hP hB0 hB1
 all_goals try exact fin
 ·exact (m_eq (szL_ge (by have:=hp.1.lo;omega) _) h).symm
def sp_l_toActionS (p:Pr):FSpec:=fsp (a1 aAS) (fun l=>p.leP (p.len l) 1073741824) (fun l=>.osl 0) (fun l=>[(0,.own shAc l 210)])
theorem ok_l_toActionS:FOk Tryz.prog 108 (sp_l_toActionS std):=by
 refine FOk.go (c:=cx std [(183,sp_l_toAction std)] [] 0) (cx_ok (.cons ok_l_toAction .nil) .nil) mixed Tryz.func108 rfl rfl rfl (by kernel_rfl) ?_
 rintro l hp
 refine⟨rfl,?_⟩
 unfold sp_l_toAction
 obtain⟨H,hH⟩ : ∃H:Hd (Int×List (El shAc)),H=⟨fun (k,L)=>0≤k∧k≤l.length∧L.length=l.length∧L.take k.toNat=l.take k.toNat,fun (k,L)=>(l.length-k).toNat,(· < ·)⟩:=⟨_,rfl⟩
 have hl : ∀m n,H.lt m n→m<n:=by subst hH;exact fun _ _ h=>h
 generalize hP:std=p
 cbv
 repeat' first
  | (refine fun (_:Unit)=>?_;cbv)
  | (refine Or.inr ⟨8,[],[.s 4 (.i .i64),.o 0 shAc],[],[],H,rfl,hl,?_,fun ((k,L):Int×List (El shAc)) hk=>?_⟩<;>cbv)
  | (refine aI2 (fun h=>?_) (fun h=>?_)<;>cbv)
  | (refine aI2 ?_ ?_)
 all_goals subst hP hH
 all_goals clear hl
 all_goals try dsimp only at hk
 all_goals try dsimp only
 all_goals try exact fin
 all_goals obtain⟨q0,q1,q2,q3⟩:=hk
 ·have hlt:k<(l.length:Int):=lt_of h
  exact⟨by show 0≤k+1;omega,by show k+1≤(l.length:Int);omega,by show (L.set k.toNat _).length =l.length;rw [List.length_set];exact q2,cp_set (d:=dE shAc) q0 hlt q2 q3⟩
 ·rw [cp_all (ge_of h) q2 q3]
def sp_l_toRecord (p:Pr):FSpec:=fsp (a1 (aA aRcd)) (fun r=>p.leP (p.len r.acts) 1073741824) (fun r=>.agg (rcK r (.osl 0))) (fun r=>[(0,.own shAc r.acts 210)])
theorem ok_l_toRecord:FOk Tryz.prog 41 (sp_l_toRecord std):=by
 refine FOk.go (c:=cx std [(108,sp_l_toActionS std)] [] 0) (cx_ok (.cons ok_l_toActionS .nil) .nil) mixed Tryz.func41 rfl rfl rfl (by kernel_rfl) ?_
 rintro r hp
 refine⟨rfl,?_⟩
 unfold sp_l_toActionS
 generalize hP:std=p
 cbv
 repeat' first
  | (refine fun (_:Unit)=>?_;cbv)
  | (refine aI2 (fun h=>?_) (fun h=>?_)<;>cbv)
  | (refine aI2 ?_ ?_)
  | (refine Or.inl (fun (_:Unit)=>?_);cbv)
 all_goals subst hP
 all_goals try exact fin
def sp_l_eqAction (p:Pr):FSpec:=fsp (ac (aA aAc) (a1 (aA aAc))) (fun (a,b)=>a=b) (fun (a,b)=>.bt)
theorem ok_l_eqAction:FOk Tryz.prog 186 (sp_l_eqAction std):=by
 refine FOk.go (c:=cx std [(185,sp_l_eqPlay std)] [] 0) (cx_ok (.cons ok_l_eqPlay .nil) .nil) mixed Tryz.func186 rfl rfl rfl (by kernel_rfl) ?_
 rintro ⟨a,b⟩ hp
 dsimp only at hp
 refine⟨rfl,?_⟩
 unfold sp_l_eqPlay
 generalize hP:std=p,hB0:qePl=B0
 cbv
 repeat' first
  | (refine fun (_:Unit)=>?_;cbv)
  | (refine aI2 (fun h=>?_) (fun h=>?_)<;>cbv)
  | (refine aI2 ?_ ?_)
  | (refine Or.inl (fun (_:Unit)=>?_);cbv)
 all_goals subst hP hB0
 all_goals try exact fin
 ·subst hp
  rename_i h
  rw [qePl_r] at h;cases h
def sp_l_eqActionS (p:Pr):FSpec:=fsp (ac aAS (a1 aAS)) (fun (a,b)=>a=b∧p.leP (p.len a) 1073741824) (fun (a,b)=>.bt)
theorem ok_l_eqActionS:FOk Tryz.prog 116 (sp_l_eqActionS std):=by
 refine FOk.go (c:=cx std [(186,sp_l_eqAction std)] [] 0) (cx_ok (.cons ok_l_eqAction .nil) .nil) mixed Tryz.func116 rfl rfl rfl (by kernel_rfl) ?_
 rintro ⟨a,b⟩ hp
 dsimp only at hp
 refine⟨rfl,?_⟩
 unfold sp_l_eqAction
 obtain⟨H,hH⟩ : ∃H:Hd (Int),H=⟨fun k=>0≤k∧k≤a.length,fun k=>(a.length-k).toNat,(· < ·)⟩:=⟨_,rfl⟩
 have hl : ∀m n,H.lt m n→m<n:=by subst hH;exact fun _ _ h=>h
 generalize hP:std=p
 cbv
 repeat' first
  | (refine fun (_:Unit)=>?_;cbv)
  | (refine Or.inr ⟨11,[],[.s 5 (.i .i64)],[],[],H,rfl,hl,?_,fun (k:Int) hk=>?_⟩<;>cbv)
  | (refine aI2 (fun h=>?_) (fun h=>?_)<;>cbv)
  | (refine aI2 ?_ ?_)
 all_goals subst hP hH
 all_goals clear hl
 all_goals try dsimp only at hk
 all_goals try dsimp only
 all_goals try exact fin
def sp_l_eqRecord (p:Pr):FSpec:=fsp (ac (aA aRcd) (a1 (aA aRcd))) (fun (a,b)=>a=b∧p.leP (p.len a.acts) 1073741824) (fun (a,b)=>.bt)
theorem ok_l_eqRecord:FOk Tryz.prog 45 (sp_l_eqRecord std):=by
 refine FOk.go (c:=cx std [(116,sp_l_eqActionS std)] [] 0) (cx_ok (.cons ok_l_eqActionS .nil) .nil) mixed Tryz.func45 rfl rfl rfl (by kernel_rfl) ?_
 rintro ⟨a,b⟩ hp
 dsimp only at hp
 refine⟨rfl,?_⟩
 unfold sp_l_eqActionS
 generalize hP:std=p
 cbv
 repeat' first
  | (refine fun (_:Unit)=>?_;cbv)
  | (refine aI2 (fun h=>?_) (fun h=>?_)<;>cbv)
  | (refine aI2 ?_ ?_)
  | (refine Or.inl (fun (_:Unit)=>?_);cbv)
 all_goals subst hP
 all_goals try exact fin
structure LawR (u:Su) (r:Rcd):Prop where
 u:SuZ u
 r:AsZ r.acts
theorem zU {n:Int} {u:Su} (h:0≤szU n u) (hn:n≤1048576):0≤n∧szU n u≤n∧SuB 1048576 u:=by
 have a9:=zB (show 0≤szB (szW (szT n u.ts) u.lex) u.bd from h)
 have b1:=zW a9.1
 have b2:=zT b1.1
 have e:szU n u=szB (szW (szT n u.ts) u.lex) u.bd:=rfl
 exact⟨b2.1,by omega,b2.2.2.le hn,WsB.le ⟨b1.2.2.1,b1.2.2.2⟩ (by omega),BdB.le ⟨a9.2.2.1,a9.2.2.2⟩ (by omega)⟩
theorem natA (L:List (El shAc)) : ∀k∈(L.length:Int)::L.flatMap szAL,0≤k:=by
 intro k hk
 rcases List.mem_cons.1 hk with rfl | hk
 ·exact Int.natCast_nonneg _
 ·obtain⟨x, -,hx⟩:=List.mem_flatMap.1 hk
  simp only [szAL,List.mem_cons,List.not_mem_nil,or_false] at hx
  rcases hx with rfl | rfl<;>exact Int.natCast_nonneg _
theorem zR {n:Int} {r:Rcd} (h:0≤szR n r) (hn:n≤1048576):RcL r:=by
 obtain⟨h1, -,h3⟩:=szL_le (natA r.acts) h
 refine⟨Int.le_trans (h3 _ List.mem_cons_self) hn,fun k=>?_⟩
 unfold acN
 rw [List.getD_eq_getElem?_getD]
 cases hk:r.acts[k.toNat]? with
 | none=>exact⟨by decide,by decide⟩
 | some x=>
   have hm : ∀y∈szAL x,y≤n:=fun y hy=>h3 y (List.mem_cons_of_mem _ (List.mem_flatMap.2 ⟨x,List.mem_of_getElem? hk,hy⟩))
   exact⟨Int.le_trans (hm _ (by simp [szAL])) hn,Int.le_trans (hm _ (by simp [szAL])) hn⟩
theorem SuB.n {u:Su} (h:SuB 1048576 u):SuN u:=by
 have h1:=h.ts.v;have h2:=h.ts.c;have h3:=h.lx.l
 exact⟨⟨by omega,by omega⟩,by omega⟩
end Ax
end Go.Proofs.YtghmphmbpdiflaaGreatDoor
namespace Go.Proofs.YtghmphmbpdiflaaGreatDoor
open Go.ChangeShapes Go.WideShapes Go.ChangeAt Go.RowKit Go.Joins
set_option maxRecDepth 100000
namespace Ax
def shSu:List AtTy:=[.s,.r [.i .i64],.r [.i .i64],.i .i64,.r [.s],.i .i64,.s,.s,.i .i64,.i .i64]
def shRc:List AtTy:=[.i .i64,.r [.i .i64,.i .i64,.i .i64,.b,.s,.s,.i .i64]]
theorem flat_su:flatT tyT 6 69=some shSu:=by kernel_rfl
theorem flat_rc:flatT tyT 6 72=some shRc:=by kernel_rfl
theorem vok_su {w:World} {fz:Nat→Prop} {l:List PV} {cs:List Value} (h:VOk w fz shSu l cs) : ∃u:Su,l=suK u (.rsl [.i .i64] u.ts.values) (.rsl [.i .i64] u.ts.counts) (.rsl [.s] u.lex)∧SuZ u:=by
 obtain⟨a0,_,_,_,rfl, -,z0, -,a1,_,_,_,rfl, -,z1, -,a2,_,_,_,rfl, -,z2, -,a3,_,_,_,rfl, -, -, -,a4,_,_,_,rfl, -,z4, -,a5,_,_,_,rfl, -, -, -,a6,_,_,_,rfl, -,z6, -,a7,_,_,_,rfl, -,z7, -,a8,_,_,_,rfl, -, -, -,a9,_,_,_,rfl, -, -, -,rfl, -⟩:=h
 exact⟨⟨⟨a0,a1,a2,a3⟩,a4,⟨a5,a6,a7⟩,a8,a9⟩,rfl,⟨⟨szs z0,szn z1,szn z2⟩,szw z4,⟨szs z6,szs z7⟩⟩⟩
theorem sza {x:El shAc} (h:SzE shAc x):AcZ (acE x):=by
 simp only [SzE,SzEs] at h
 exact⟨szs h.2.2.2.2.1,szs h.2.2.2.2.2.1⟩
theorem vok_rc {w:World} {fz:Nat→Prop} {l:List PV} {cs:List Value} (h:VOk w fz shRc l cs) : ∃r:Rcd,l=rcK r (.rsl shAc r.acts)∧AsZ r.acts:=by
 obtain⟨x0,_,_,_,rfl, -, -, -,x1,_,_,_,rfl, -,z1, -,rfl, -⟩:=h
 refine⟨⟨x0,x1⟩,rfl,?_⟩
 unfold SzA at z1
 exact⟨z1.1,fun y hy=>sza (z1.2 y hy)⟩
end Ax
end Go.Proofs.YtghmphmbpdiflaaGreatDoor
namespace Go.Proofs.YtghmphmbpdiflaaGreatDoor
namespace Ax
set_option maxRecDepth 100000
set_option maxHeartbeats 2000000
def digI:Nat→Nat→List UInt8→List UInt8
 | 0,_,out=>out
 | f+1,n,out=>if n=0 then out else digI f (n/10) (UInt8.ofNat (48+n%10)::out)
theorem digI_fuel : ∀(f n:Nat) (out:List UInt8),n≤f→digI f n out=digI n n out
 | 0,n,out,h=>by obtain rfl:n=0:=by omega
                 rfl
 | f+1,0,out,_=>by simp [digI]
 | f+1,n+1,out,h=>by
   rw [digI,digI,if_neg (by omega),if_neg (by omega),digI_fuel f _ _ (by omega),digI_fuel n _ _ (by omega)]
theorem digI_step {n:Nat} (h:n≠0) (out:List UInt8):digI n n out=digI (n/10) (n/10) (UInt8.ofNat (48+n%10)::out):=by
 obtain⟨m,rfl⟩ : ∃m,n=m+1:=⟨n-1,by omega⟩
 rw [digI,if_neg h,digI_fuel m _ _ (by omega)]
def markI (k:Int):List UInt8:=if k≤0 then [109,48] else 109::digI k.toNat k.toNat []
def marksW (k:Int) (n:Nat):List (List UInt8):=(List.range n).map fun i:Nat=>markI (k+(i:Int))
def marksN (k:Int) (n:Nat):List Int:=(List.range n).map fun i:Nat=>k+(i:Int)
theorem marksW_len (k:Int) (n:Nat):(marksW k n).length =n:=by simp [marksW]
theorem marksN_len (k:Int) (n:Nat):(marksN k n).length =n:=by simp [marksN]
def markW (k:Int) (l:List (List UInt8)):List (List UInt8):=marksW k l.length
def markN (k:Int) (l:List Int):List Int:=marksN k l.length
def toW (k:Int) (l:List (List UInt8)) (i:Int):List (List UInt8):=marksW k i.toNat++l.drop i.toNat
def toN (k:Int) (l:List Int) (i:Int):List Int:=marksN k i.toNat++l.drop i.toNat
def endW (k:Int) (l:List (List UInt8)):Int:=k+l.length
def endN (k:Int) (l:List Int):Int:=k+l.length
section
variable {k i:Int} {l:List (List UInt8)} {m:List Int}
theorem toW_0:toW k l 0=l:=by simp [toW,marksW]
theorem toN_0:toN k m 0=m:=by simp [toN,marksN]
theorem toW_n (h:(l.length:Int)≤i) (h1:i≤l.length):toW k l i=markW k l:=by
 rw [toW,dn h,List.append_nil,markW,show i.toNat=l.length by omega]
theorem toN_n (h:(m.length:Int)≤i) (h1:i≤m.length):toN k m i=markN k m:=by
 rw [toN,dn h,List.append_nil,markN,show i.toNat=m.length by omega]
theorem toW_s (h0:0≤i) (h:i<l.length):(toW k l i).set i.toNat (markI (k+i))=toW k l (i+1):=by
 unfold toW
 rw [List.set_append_right _ _ (by rw [marksW_len];omega),marksW_len,Nat.sub_self,dc h0 h [],List.set_cons_zero,show (i+1).toNat =i.toNat+1 by omega,marksW,marksW,List.range_succ,List.map_append,List.append_assoc]
 simp [show ((i.toNat:Nat):Int)=i by omega]
theorem toN_s (h0:0≤i) (h:i<m.length):(toN k m i).set i.toNat (k+i)=toN k m (i+1):=by
 unfold toN
 rw [List.set_append_right _ _ (by rw [marksN_len];omega),marksN_len,Nat.sub_self,dc h0 h 0,List.set_cons_zero,show (i+1).toNat =i.toNat+1 by omega,marksN,marksN,List.range_succ,List.map_append,List.append_assoc]
 simp [show ((i.toNat:Nat):Int)=i by omega]
theorem toW_l (h0:0≤i) (h:i≤l.length):(toW k l i).length =l.length:=by
 unfold toW;rw [List.length_append,marksW_len,List.length_drop];omega
theorem toN_l (h0:0≤i) (h:i≤m.length):(toN k m i).length =m.length:=by
 unfold toN;rw [List.length_append,marksN_len,List.length_drop];omega
end
structure KnP {α:Type} (k:Int) (l:List α):Prop where
 lo:0≤k
 hi:k≤274877906944
 n:(l.length:Int)≤1073741824
def mNr:MArgs (List Int×Int):=⟨fun H l=>match H,l with
 | [x],[.osl 0,.i .i64 k]=>match hN x with
   | some (0,L)=>some (L,k)
   | _=>none
 | _,_=>none,fun a=>[(0,.own [.i .i64] a.1 2)],fun a=>[.osl 0,.i .i64 a.2],fun H l a h=>by
   split at h
   ·split at h
    ·rename_i h0
     cases h
     exact⟨by rw [hN_ok h0],rfl⟩
    ·cases h
   ·cases h⟩
def mW:MArgs (List (List UInt8)×Int):=⟨fun H l=>match H,l with
 | [x],[.osl 0,.i .i64 k]=>match hW x with
   | some (0,L)=>some (L,k)
   | _=>none
 | _,_=>none,fun a=>[(0,.own [.s] a.1 9)],fun a=>[.osl 0,.i .i64 a.2],fun H l a h=>by
   split at h
   ·split at h
    ·rename_i h0
     cases h
     exact⟨by rw [hW_ok h0],rfl⟩
    ·cases h
   ·cases h⟩
def mLx:MArgs (List (List UInt8)×Int):=⟨fun H l=>match H,l with
 | [x],[.agg [.osl 0],.i .i64 k]=>match hW x with
   | some (0,L)=>some (L,k)
   | _=>none
 | _,_=>none,fun a=>[(0,.own [.s] a.1 9)],fun a=>[.agg [.osl 0],.i .i64 a.2],fun H l a h=>by
   split at h
   ·split at h
    ·rename_i h0
     cases h
     exact⟨by rw [hW_ok h0],rfl⟩
    ·cases h
   ·cases h⟩
def mTs:MArgs (TS×Int):=⟨fun H l=>match H,l with
 | [x,y],[.agg [.s a,.osl 0,.osl 1,.i .i64 d],.i .i64 k]=>match hN x,hN y with
   | some (0,v),some (1,c)=>some (⟨a,v,c,d⟩,k)
   | _,_=>none
 | _,_=>none,fun a=>[(0,.own [.i .i64] a.1.values 2),(1,.own [.i .i64] a.1.counts 2)],fun a=>[.agg (tsK a.1 (.osl 0) (.osl 1)),.i .i64 a.2],fun H l a h=>by
   split at h
   ·split at h
    ·rename_i h0 h1
     cases h
     exact⟨by rw [hN_ok h0,hN_ok h1],rfl⟩
    ·cases h
   ·cases h⟩
def mSu:MArgs (Su×Int):=⟨fun H l=>match H,l with
 | [x,y,z],[.agg [.s a,.osl 0,.osl 1,.i .i64 d,.osl 2,.i .i64 e,.s f,.s g,.i .i64 i,.i .i64 j],.i .i64 k]=>match hN x,hN y,hW z with
   | some (0,v),some (1,c),some (2,w)=>some (⟨⟨a,v,c,d⟩,w,⟨e,f,g⟩,i,j⟩,k)
   | _,_,_=>none
 | _,_=>none,fun a=>[(0,.own [.i .i64] a.1.ts.values 2),(1,.own [.i .i64] a.1.ts.counts 2),(2,.own [.s] a.1.lex 9)],fun a=>[.agg (suK a.1 (.osl 0) (.osl 1) (.osl 2)),.i .i64 a.2],fun H l a h=>by
   split at h
   ·split at h
    ·rename_i h0 h1 h2
     cases h
     exact⟨by rw [hN_ok h0,hN_ok h1,hW_ok h2],rfl⟩
    ·cases h
   ·cases h⟩
def gmH6d:AH→Option (List Int×List Int×List (List UInt8)×List (List UInt8)×List Int×List Int)
 | [x0,x1,x2,x3,x4,x5]=>match hN x0,hN x1,hW x2,hW x3,hN x4,hN x5 with
   | some (0,v),some (1,c),some (2,l),some (3,r),some (4,s),some (5,k)=>some (v,c,l,r,s,k)
   | _,_,_,_,_,_=>none
 | _=>none
theorem gmH6d_ok {H:AH} {v c:List Int} {l r:List (List UInt8)} {s k:List Int} (h:gmH6d H=some (v,c,l,r,s,k)) (g:Gm):H=gmH6 (fillG g v c l r s k):=by
 unfold gmH6d at h
 split at h
 ·split at h
  ·rename_i h0 h1 h2 h3 h4 h5
   cases h
   rw [hN_ok h0,hN_ok h1,hW_ok h2,hW_ok h3,hN_ok h4,hN_ok h5]
   rfl
  ·cases h
 ·cases h
def gmO6d (l:List PV):Option Gm:=match gmO l with
 | some (g,[.osl 0,.osl 1,.osl 2,.osl 3,.osl 4,.osl 5])=>some g
 | _=>none
def mGm6:MArgs (Gm×Int):=⟨fun H l=>match l with
 | [.agg x,.i .i64 k]=>match gmO6d x,gmH6d H with
   | some g,some (v,c,lx,r,s,ck)=>some (fillG g v c lx r s ck,k)
   | _,_=>none
 | _=>none,fun a=>gmH6 a.1,fun a=>[.agg (gmO6 a.1),.i .i64 a.2],fun H l a h=>by
   split at h
   ·split at h
    ·rename_i h0 h1
     cases h
     unfold gmO6d at h0
     split at h0
     ·rename_i h2
      cases h0
      obtain⟨v,c,lx,rk,sc,ck,hx,rfl⟩:=gmO_eq h2
      cases hx
      exact⟨gmH6d_ok h1 _,rfl⟩
     ·cases h0
    ·cases h
   ·cases h⟩
def endTs (k:Int) (t:TS):Int:=endN (endN k t.values) t.counts
def endSu (k:Int) (u:Su):Int:=endW (endTs k u.ts) u.lex
def endG1 (k:Int) (g:Gm):Int:=endW (endSu k (gSu g)) g.racks
def endG2 (k:Int) (g:Gm):Int:=endN (endG1 k g) g.scores
def endGm (k:Int) (g:Gm):Int:=endN (endG2 k g) g.clocks
def markGm (k:Int) (g:Gm):Gm:=fillG g (markN k g.ts.values) (markN (endN k g.ts.values) g.ts.counts) (markW (endTs k g.ts) g.lex) (markW (endSu k (gSu g)) g.racks) (markN (endG1 k g) g.scores) (markN (endG2 k g) g.clocks)
def sp_l_markText (p:Pr):FSpec:=fsp (a1 aI) (fun k=>p.leP 0 k∧p.leP k 1152921504606846976) (fun k=>.s (markI k))
theorem ok_l_markText:FOk Tryz.prog 187 (sp_l_markText std):=by
 refine FOk.go (c:=cx std [] [] 0) (cx_ok .nil .nil) mixed Tryz.func187 rfl rfl rfl (by kernel_rfl) ?_
 rintro k hp
 refine⟨rfl,?_⟩
 obtain⟨H,hH⟩ : ∃H:Hd (Int×List UInt8),H=⟨fun (m,out)=>0≤m∧m≤k∧out.length+m≤1152921504606846976∧digI m.toNat m.toNat out=digI k.toNat k.toNat [],fun (m,out)=>m.toNat,(· < ·)⟩:=⟨_,rfl⟩
 have hl : ∀m n,H.lt m n→m<n:=by subst hH;exact fun _ _ h=>h
 generalize hP:std=p,hB0:markI=B0
 cbv
 repeat' first
  | (refine fun (_:Unit)=>?_;cbv)
  | (refine Or.inr ⟨6,[],[.s 0 (.i .i64),.s 3 .s],[],[],H,rfl,hl,?_,fun ((m,out):Int×List UInt8) hk=>?_⟩<;>cbv)
  | (refine aI2 (fun h=>?_) (fun h=>?_)<;>cbv)
  | (refine aI2 ?_ ?_)
 all_goals subst hP hB0 hH
 all_goals clear hl
 all_goals try dsimp only at hk
 all_goals try dsimp only
 all_goals try exact fin
 ·rw [markI,if_pos (show k≤0 by simpa using h)]
 all_goals obtain⟨q0,q1,q2,q3⟩:=hk
 all_goals have q2:(out.length:Int)+m≤1152921504606846976:=q2
 all_goals have hk0:0<k:=by have : std.leI k 0=false:=‹_›;simpa using this
 ·exact in64 (by show _≤(1:Int)+(out.length:Int)∧(1:Int)+(out.length:Int)≤_;omega)
 ·have hm:0<m:=lt_of h
  have e1:std.rem m 10=m%10:=rem_nn q0
  have e2:std.quo m 10=m/10:=quo_nn q0
  have e3:std.app (std.toS [std.add 48 (std.rem m 10)]) out=UInt8.ofNat (48+m.toNat%10)::out:=by
   rw [e1]
   show UInt8.ofNat (48+m%10).toNat ::out=_
   rw [show (48+m%10).toNat =48+m.toNat%10 by omega]
  show 0≤std.quo m 10∧std.quo m 10≤k∧((std.app (std.toS [std.add 48 (std.rem m 10)]) out).length : Int)+std.quo m 10≤1152921504606846976∧digI (std.quo m 10).toNat (std.quo m 10).toNat (std.app (std.toS [std.add 48 (std.rem m 10)]) out)=digI k.toNat k.toNat []
  rw [e2,e3]
  have g1:((UInt8.ofNat (48+m.toNat%10)::out).length : Int)=(out.length:Int)+1:=rfl
  refine⟨by omega,by omega,by omega,?_⟩
  rw [←q3,digI_step (n:=m.toNat) (by omega) out,show (m/10).toNat =m.toNat/10 by omega]
 ·have hm:m≤0:=ge_of h
  show 109::out=markI k
  rw [markI,if_neg (by omega),←q3,show m.toNat=0 by omega];rfl
def sp_l_markInt64S (p:Pr):MSpec:=msp mNr (fun (l,k)=>KnP k l) (fun (l,k)=>.i .i64 (endN k l)) (fun (l,k)=>[(0,.own [.i .i64] (markN k l) 2)])
theorem ok_l_markInt64S:MOk Tryz.prog 121 (sp_l_markInt64S std):=by
 refine MOk.go (c:=cx std [] [] 1) (cx_ok .nil .nil) mixed Tryz.func121 rfl rfl (by kernel_rfl) ?_
 rintro ⟨l,k⟩ hp
 dsimp only at hp
 refine⟨rfl,?_⟩
 obtain⟨H,hH⟩ : ∃H:Hd (Int×Int×List Int),H=⟨fun (m,i,L)=>0≤i∧i≤l.length∧m=k+i∧L=toN k l i,fun (m,i,L)=>(l.length-i).toNat,(· < ·)⟩:=⟨_,rfl⟩
 have hl : ∀m n,H.lt m n→m<n:=by subst hH;exact fun _ _ h=>h
 generalize hP:std=p,hB0:endN=B0,hB1:markN=B1,hB2:toN=B2
 cbv
 repeat' first
  | (refine fun (_:Unit)=>?_;cbv)
  | (refine Or.inr ⟨6,[],[.s 1 (.i .i64),.s 5 (.i .i64),.o 0 [.i .i64]],[],[],H,rfl,hl,?_,fun ((m,i,L):Int×Int×List Int) hk=>?_⟩<;>cbv)
  | (refine aI2 (fun h=>?_) (fun h=>?_)<;>cbv)
  | (refine aI2 ?_ ?_)
 all_goals subst hP hB0 hB1 hB2 hH
 all_goals clear hl
 all_goals try dsimp only at hk
 all_goals try dsimp only
 all_goals try exact fin
 ·exact⟨Int.le_refl 0,Int.natCast_nonneg _,by omega,toN_0.symm⟩
 all_goals obtain⟨q0,q1,rfl,rfl⟩:=hk
 all_goals have q1:i≤(l.length:Int):=q1
 all_goals have hl:=toN_l (k:=k) q0 q1
 all_goals have b1:=hp.lo
 all_goals have b2:=hp.hi
 all_goals have b3:=hp.n
 all_goals try (have hlt:i<(l.length:Int):=by have h7:i<((toN k l i).length : Int):=lt_of ‹_›;omega)
 all_goals try (have hge:(l.length:Int)≤i:=by have h7:((toN k l i).length : Int)≤i:=ge_of ‹_›;omega)
 ·exact in64 (by show _≤k+i+1∧k+i+1≤_;omega)
 ·exact in64 (by show _≤i+1∧i+1≤_;omega)
 ·exact⟨by show 0≤i+1;omega,by show i+1≤(l.length:Int);omega,by show k+i+1=k+(i+1);omega,toN_s q0 hlt⟩
 ·show ((l.length:Int)-(i+1)).toNat < ((l.length:Int)-i).toNat
  omega
 ·rw [toN_n hge q1]
 ·show k+i=k+(l.length:Int)
  omega
def sp_l_markStringS (p:Pr):MSpec:=msp mW (fun (l,k)=>KnP k l) (fun (l,k)=>.i .i64 (endW k l)) (fun (l,k)=>[(0,.own [.s] (markW k l) 9)])
theorem ok_l_markStringS:MOk Tryz.prog 120 (sp_l_markStringS std):=by
 refine MOk.go (c:=cx std [(187,sp_l_markText std)] [] 1) (cx_ok (.cons ok_l_markText .nil) .nil) mixed Tryz.func120 rfl rfl (by kernel_rfl) ?_
 rintro ⟨l,k⟩ hp
 dsimp only at hp
 refine⟨rfl,?_⟩
 unfold sp_l_markText
 obtain⟨H,hH⟩ : ∃H:Hd (Int×Int×List (List UInt8)),H=⟨fun (m,i,L)=>0≤i∧i≤l.length∧m=k+i∧L=toW k l i,fun (m,i,L)=>(l.length-i).toNat,(· < ·)⟩:=⟨_,rfl⟩
 have hl : ∀m n,H.lt m n→m<n:=by subst hH;exact fun _ _ h=>h
 generalize hP:std=p,hB0:endW=B0,hB1:markW=B1,hB2:markI=B2,hB3:toW=B3
 cbv
 repeat' first
  | (refine fun (_:Unit)=>?_;cbv)
  | (refine Or.inr ⟨6,[],[.s 1 (.i .i64),.s 5 (.i .i64),.o 0 [.s]],[],[],H,rfl,hl,?_,fun ((m,i,L):Int×Int×List (List UInt8)) hk=>?_⟩<;>cbv)
  | (refine aI2 (fun h=>?_) (fun h=>?_)<;>cbv)
  | (refine aI2 ?_ ?_)
 all_goals subst hP hB0 hB1 hB2 hB3 hH
 all_goals clear hl
 all_goals try dsimp only at hk
 all_goals try dsimp only
 all_goals try exact fin
 ·exact⟨Int.le_refl 0,Int.natCast_nonneg _,by omega,toW_0.symm⟩
 all_goals obtain⟨q0,q1,rfl,rfl⟩:=hk
 all_goals have q1:i≤(l.length:Int):=q1
 all_goals have hl:=toW_l (k:=k) q0 q1
 all_goals have b1:=hp.lo
 all_goals have b2:=hp.hi
 all_goals have b3:=hp.n
 all_goals try (have hlt:i<(l.length:Int):=by have h7:i<((toW k l i).length : Int):=lt_of ‹_›;omega)
 all_goals try (have hge:(l.length:Int)≤i:=by have h7:((toW k l i).length : Int)≤i:=ge_of ‹_›;omega)
 ·show 0≤k+i
  have:=hp.lo;omega
 ·show k+i≤1152921504606846976
  have:=hp.n;have:=hp.hi;omega
 ·exact in64 (by show _≤k+i+1∧k+i+1≤_;omega)
 ·exact in64 (by show _≤i+1∧i+1≤_;omega)
 ·exact⟨by show 0≤i+1;omega,by show i+1≤(l.length:Int);omega,by show k+i+1=k+(i+1);omega,toW_s q0 hlt⟩
 ·show ((l.length:Int)-(i+1)).toNat < ((l.length:Int)-i).toNat
  omega
 ·rw [toW_n hge q1]
 ·show k+i=k+(l.length:Int)
  omega
structure KnT (k:Int) (t:TS):Prop where
 lo:0≤k
 hi:k≤17179869184
 n:TsN t
structure KnS (k:Int) (u:Su):Prop where
 lo:0≤k
 hi:k≤8589934592
 n:SuN u
structure KnG (k:Int) (g:Gm):Prop where
 lo:0≤k
 hi:k≤4294967296
 n:GmN g
def sp_l_markTileSet (p:Pr):MSpec:=msp mTs (fun (t,k)=>KnT k t) (fun (t,k)=>.i .i64 (endTs k t)) (fun (t,k)=>[(0,.own [.i .i64] (markN k t.values) 2),(1,.own [.i .i64] (markN (endN k t.values) t.counts) 2)])
theorem ok_l_markTileSet:MOk Tryz.prog 117 (sp_l_markTileSet std):=by
 refine MOk.go (c:=cx std [] [(121,sp_l_markInt64S std)] 2) (cx_ok .nil (.cons ok_l_markInt64S .nil)) mixed Tryz.func117 rfl rfl (by kernel_rfl) ?_
 rintro ⟨t,k⟩ hp
 dsimp only at hp
 refine⟨rfl,?_⟩
 unfold sp_l_markInt64S
 generalize hP:std=p,hB0:endN=B0,hB1:markN=B1,hB2:endTs=B2
 cbv
 repeat' first
  | (refine fun (_:Unit)=>?_;cbv)
  | (refine aI2 (fun h=>?_) (fun h=>?_)<;>cbv)
  | (refine aI2 ?_ ?_)
  | (refine Or.inl (fun (_:Unit)=>?_);cbv)
 all_goals subst hP hB0 hB1 hB2
 all_goals try exact fin
 all_goals have b1:=hp.lo
 all_goals have b2:=hp.hi
 all_goals have b3:=hp.n.v
 all_goals have b4:=hp.n.c
 ·exact⟨b1,by omega,b3⟩
 ·exact⟨by show 0≤k+(t.values.length:Int);omega,by show k+(t.values.length:Int)≤_;omega,b4⟩
def sp_l_markLexicon (p:Pr):MSpec:=msp mLx (fun (l,k)=>KnP k l) (fun (l,k)=>.i .i64 (endW k l)) (fun (l,k)=>[(0,.own [.s] (markW k l) 9)])
theorem ok_l_markLexicon:MOk Tryz.prog 118 (sp_l_markLexicon std):=by
 refine MOk.go (c:=cx std [] [(120,sp_l_markStringS std)] 1) (cx_ok .nil (.cons ok_l_markStringS .nil)) mixed Tryz.func118 rfl rfl (by kernel_rfl) ?_
 rintro ⟨l,k⟩ hp
 dsimp only at hp
 refine⟨rfl,?_⟩
 unfold sp_l_markStringS
 generalize hP:std=p,hB0:endW=B0,hB1:markW=B1
 cbv
 repeat' first
  | (refine fun (_:Unit)=>?_;cbv)
  | (refine aI2 (fun h=>?_) (fun h=>?_)<;>cbv)
  | (refine aI2 ?_ ?_)
  | (refine Or.inl (fun (_:Unit)=>?_);cbv)
 all_goals subst hP hB0 hB1
 all_goals try exact fin
def sp_l_markSetup (p:Pr):MSpec:=msp mSu (fun (u,k)=>KnS k u) (fun (u,k)=>.i .i64 (endSu k u)) (fun (u,k)=>[(0,.own [.i .i64] (markN k u.ts.values) 2),(1,.own [.i .i64] (markN (endN k u.ts.values) u.ts.counts) 2),(2,.own [.s] (markW (endTs k u.ts) u.lex) 9)])
theorem ok_l_markSetup:MOk Tryz.prog 46 (sp_l_markSetup std):=by
 refine MOk.go (c:=cx std [] [(117,sp_l_markTileSet std),(118,sp_l_markLexicon std)] 3) (cx_ok .nil (.cons ok_l_markTileSet (.cons ok_l_markLexicon .nil))) mixed Tryz.func46 rfl rfl (by kernel_rfl) ?_
 rintro ⟨u,k⟩ hp
 dsimp only at hp
 refine⟨rfl,?_⟩
 unfold sp_l_markTileSet sp_l_markLexicon
 generalize hP:std=p,hB0:endN=B0,hB1:markN=B1,hB2:endTs=B2,hB3:endSu=B3,hB4:markW=B4,hB5:endW=B5
 cbv
 repeat' first
  | (refine fun (_:Unit)=>?_;cbv)
  | (refine aI2 (fun h=>?_) (fun h=>?_)<;>cbv)
  | (refine aI2 ?_ ?_)
  | (refine Or.inl (fun (_:Unit)=>?_);cbv)
 all_goals subst hP hB0 hB1 hB2 hB3 hB4 hB5
 all_goals try exact fin
 all_goals have b1:=hp.lo
 all_goals have b2:=hp.hi
 all_goals have b3:=hp.n.ts.v
 all_goals have b4:=hp.n.ts.c
 ·exact⟨b1,by omega,hp.n.ts⟩
 ·exact⟨by show 0≤k+(u.ts.values.length:Int)+(u.ts.counts.length:Int);omega,by show k+(u.ts.values.length:Int)+(u.ts.counts.length:Int)≤_;omega,hp.n.l⟩
def sp_l_markGame (p:Pr):MSpec:=msp mGm6 (fun (g,k)=>KnG k g) (fun (g,k)=>.i .i64 (endGm k g)) (fun (g,k)=>[(0,.own [.i .i64] (markN k g.ts.values) 2),(1,.own [.i .i64] (markN (endN k g.ts.values) g.ts.counts) 2),(2,.own [.s] (markW (endTs k g.ts) g.lex) 9),(3,.own [.s] (markW (endSu k (gSu g)) g.racks) 9),(4,.own [.i .i64] (markN (endG1 k g) g.scores) 2),(5,.own [.i .i64] (markN (endG2 k g) g.clocks) 2)])
theorem ok_l_markGame:MOk Tryz.prog 48 (sp_l_markGame std):=by
 refine MOk.go (c:=cx std [] [(46,sp_l_markSetup std),(120,sp_l_markStringS std),(121,sp_l_markInt64S std)] 6) (cx_ok .nil (.cons ok_l_markSetup (.cons ok_l_markStringS (.cons ok_l_markInt64S .nil)))) mixed Tryz.func48 rfl rfl (by kernel_rfl) ?_
 rintro ⟨g,k⟩ hp
 dsimp only at hp
 refine⟨rfl,?_⟩
 unfold sp_l_markSetup sp_l_markStringS sp_l_markInt64S
 generalize hP:std=p,hB0:endN=B0,hB1:markN=B1,hB2:endTs=B2,hB3:endSu=B3,hB4:markW=B4,hB5:endW=B5,hB6:endG1=B6,hB7:endG2=B7,hB8:endGm=B8
 cbv
 repeat' first
  | (refine fun (_:Unit)=>?_;cbv)
  | (refine aI2 (fun h=>?_) (fun h=>?_)<;>cbv)
  | (refine aI2 ?_ ?_)
  | (refine Or.inl (fun (_:Unit)=>?_);cbv)
 all_goals subst hP hB0 hB1 hB2 hB3 hB4 hB5 hB6 hB7 hB8
 all_goals try exact fin
 all_goals have b1:=hp.lo
 all_goals have b2:=hp.hi
 all_goals have b3:=hp.n.su.ts.v
 all_goals have b4:=hp.n.su.ts.c
 all_goals have b5:=hp.n.su.l
 all_goals have b6:=hp.n.r
 all_goals have b7:=hp.n.s
 all_goals have b3:(g.ts.values.length:Int)≤1073741824:=b3
 all_goals have b4:(g.ts.counts.length:Int)≤1073741824:=b4
 all_goals have b5:(g.lex.length:Int)≤1073741824:=b5
 ·exact⟨b1,by omega,hp.n.su⟩
 ·exact⟨by show 0≤k+(g.ts.values.length:Int)+(g.ts.counts.length:Int)+(g.lex.length:Int);omega,by show k+(g.ts.values.length:Int)+(g.ts.counts.length:Int)+(g.lex.length:Int)≤_;omega,hp.n.r⟩
 ·exact⟨by show 0≤k+(g.ts.values.length:Int)+(g.ts.counts.length:Int)+(g.lex.length:Int)+(g.racks.length:Int);omega,by show k+(g.ts.values.length:Int)+(g.ts.counts.length:Int)+(g.lex.length:Int)+(g.racks.length:Int)≤_;omega,hp.n.s⟩
 ·exact⟨by show 0≤k+(g.ts.values.length:Int)+(g.ts.counts.length:Int)+(g.lex.length:Int)+(g.racks.length:Int)+(g.scores.length:Int);omega,by show k+(g.ts.values.length:Int)+(g.ts.counts.length:Int)+(g.lex.length:Int)+(g.racks.length:Int)+(g.scores.length:Int)≤_;omega,hp.n.k⟩
end Ax
namespace Ax
set_option maxRecDepth 100000
set_option maxHeartbeats 2000000
def markAc (k:Int):El shAc:=(k,k+1,k+1+1,std.eqI (std.rem (k+1+1+1) 3) 0,markI (k+1+1+1+1),markI (k+1+1+1+1+1),k+1+1+1+1+1+1)
def marksA (k:Int) (n:Nat):List (El shAc):=(List.range n).map fun i:Nat=>markAc (k+7*(i:Int))
theorem marksA_len (k:Int) (n:Nat):(marksA k n).length =n:=by simp [marksA]
def markAS (k:Int) (l:List (El shAc)):List (El shAc):=marksA k l.length
def toAS (k:Int) (l:List (El shAc)) (i:Int):List (El shAc):=marksA k i.toNat++l.drop i.toNat
def endA (k:Int) (l:List (El shAc)):Int:=k+7*l.length
section
variable {k i:Int} {l:List (El shAc)}
theorem toAS_0:toAS k l 0=l:=by simp [toAS,marksA]
theorem toAS_n (h:(l.length:Int)≤i) (h1:i≤l.length):toAS k l i=markAS k l:=by
 rw [toAS,dn h,List.append_nil,markAS,show i.toNat=l.length by omega]
theorem toAS_s (h0:0≤i) (h:i<l.length):(toAS k l i).set i.toNat (markAc (k+7*i))=toAS k l (i+1):=by
 unfold toAS
 rw [List.set_append_right _ _ (by rw [marksA_len];omega),marksA_len,Nat.sub_self,dc h0 h (dE shAc),List.set_cons_zero,show (i+1).toNat =i.toNat+1 by omega,marksA,marksA,List.range_succ,List.map_append,List.append_assoc]
 simp [show ((i.toNat:Nat):Int)=i by omega]
theorem toAS_l (h0:0≤i) (h:i≤l.length):(toAS k l i).length =l.length:=by
 unfold toAS;rw [List.length_append,marksA_len,List.length_drop];omega
end
structure KnA (k:Int) (l:List (El shAc)):Prop where
 lo:0≤k
 hi:k≤274877906944
 n:(l.length:Int)≤1073741824
def hA:Nat×Ob→Option (Nat×List (El shAc))
 | (k,.own [.i .i64,.i .i64,.i .i64,.b,.s,.s,.i .i64] L t)=>if Nat.beq t 210 then some (k,L) else none
 | _=>none
theorem hA_ok {x:Nat×Ob} {k:Nat} {L:List (El shAc)} (h:hA x=some (k,L)):x=(k,.own shAc L 210):=by
 unfold hA at h
 split at h
 ·split at h
  ·rename_i ht
   cases h
   rw [Nat.eq_of_beq_eq_true ht]
  ·cases h
 ·cases h
def mAS:MArgs (List (El shAc)×Int):=⟨fun H l=>match H,l with
 | [x],[.osl 0,.i .i64 k]=>match hA x with
   | some (0,L)=>some (L,k)
   | _=>none
 | _,_=>none,fun a=>[(0,.own shAc a.1 210)],fun a=>[.osl 0,.i .i64 a.2],fun H l a h=>by
   split at h
   ·split at h
    ·rename_i h0
     cases h
     exact⟨by rw [hA_ok h0],rfl⟩
    ·cases h
   ·cases h⟩
def mRc:MArgs (Rcd×Int):=⟨fun H l=>match H,l with
 | [x],[.agg [.i .i64 s,.osl 0],.i .i64 k]=>match hA x with
   | some (0,L)=>some (⟨s,L⟩,k)
   | _=>none
 | _,_=>none,fun a=>[(0,.own shAc a.1.acts 210)],fun a=>[.agg (rcK a.1 (.osl 0)),.i .i64 a.2],fun H l a h=>by
   split at h
   ·split at h
    ·rename_i h0
     cases h
     exact⟨by rw [hA_ok h0],rfl⟩
    ·cases h
   ·cases h⟩
def st1 (L:List (El shAc)) (i:Int) (f:El shAc→El shAc):List (El shAc):=std.set L i (f (std.get (dE shAc) L i))
theorem st1_set {L:List (El shAc)} {i:Int} {x:El shAc} {f:El shAc→El shAc} (h0:0≤i) (h:i<L.length):st1 (L.set i.toNat x) i f=L.set i.toNat (f x):=by
 show (L.set i.toNat x).set i.toNat (f ((L.set i.toNat x).getD i.toNat (dE shAc)))=_
 rw [List.set_set,List.getD_eq_getElem?_getD,List.getElem?_set_self (by omega)];rfl
def chA (L:List (El shAc)) (i m:Int):List (El shAc):=
 st1 (st1 (st1 (st1 (st1 (st1 (st1 L i fun x=>(m,x.2.1,x.2.2.1,x.2.2.2.1,x.2.2.2.2.1,x.2.2.2.2.2.1,x.2.2.2.2.2.2)) i fun x=>(x.1,m+1,x.2.2.1,x.2.2.2.1,x.2.2.2.2.1,x.2.2.2.2.2.1,x.2.2.2.2.2.2)) i fun x=>(x.1,x.2.1,m+1+1,x.2.2.2.1,x.2.2.2.2.1,x.2.2.2.2.2.1,x.2.2.2.2.2.2))
  i fun x=>(x.1,x.2.1,x.2.2.1,std.eqI (std.rem (m+1+1+1) 3) 0,x.2.2.2.2.1,x.2.2.2.2.2.1,x.2.2.2.2.2.2)) i fun x=>(x.1,x.2.1,x.2.2.1,x.2.2.2.1,markI (m+1+1+1+1),x.2.2.2.2.2.1,x.2.2.2.2.2.2)) i fun x=>(x.1,x.2.1,x.2.2.1,x.2.2.2.1,x.2.2.2.2.1,markI (m+1+1+1+1+1),x.2.2.2.2.2.2))
  i fun x=>(x.1,x.2.1,x.2.2.1,x.2.2.2.1,x.2.2.2.2.1,x.2.2.2.2.2.1,m+1+1+1+1+1+1)
theorem chA_eq {L:List (El shAc)} {i m:Int} (h0:0≤i) (h:i<L.length):chA L i m=L.set i.toNat (markAc m):=by
 unfold chA
 rw [show ∀f,st1 L i f=L.set i.toNat (f (L.getD i.toNat (dE shAc))) from fun _=>rfl,st1_set h0 h,st1_set h0 h,st1_set h0 h,st1_set h0 h,st1_set h0 h,st1_set h0 h];rfl
def sp_l_markActionS (p:Pr):MSpec:=msp mAS (fun (l,k)=>KnA k l) (fun (l,k)=>.i .i64 (endA k l)) (fun (l,k)=>[(0,.own shAc (markAS k l) 210)])
theorem ok_l_markActionS:MOk Tryz.prog 119 (sp_l_markActionS std):=by
 refine MOk.go (c:=cx std [(187,sp_l_markText std)] [] 1) (cx_ok (.cons ok_l_markText .nil) .nil) mixed Tryz.func119 rfl rfl (by kernel_rfl) ?_
 rintro ⟨l,k⟩ hp
 dsimp only at hp
 refine⟨rfl,?_⟩
 unfold sp_l_markText
 obtain⟨H,hH⟩ : ∃H:Hd (Int×Int×List (El shAc)),H=⟨fun (m,i,L)=>0≤i∧i≤l.length∧m=k+7*i∧L=toAS k l i,fun (m,i,L)=>(l.length-i).toNat,(· < ·)⟩:=⟨_,rfl⟩
 have hl : ∀m n,H.lt m n→m<n:=by subst hH;exact fun _ _ h=>h
 generalize hP:std=p,hB0:endA=B0,hB1:markAS=B1,hB2:toAS=B2,hB3:markI=B3
 cbv
 repeat' first
  | (refine fun (_:Unit)=>?_;cbv)
  | (refine Or.inr ⟨6,[],[.s 1 (.i .i64),.s 5 (.i .i64),.o 0 shAc],[],[],H,rfl,hl,?_,fun ((m,i,L):Int×Int×List (El shAc)) hk=>?_⟩<;>cbv)
  | (refine aI2 (fun h=>?_) (fun h=>?_)<;>cbv)
  | (refine aI2 ?_ ?_)
 all_goals subst hP hB0 hB1 hB2 hB3 hH
 all_goals clear hl
 all_goals try dsimp only at hk
 all_goals try dsimp only
 all_goals try exact fin
 ·exact⟨Int.le_refl 0,Int.natCast_nonneg _,by omega,toAS_0.symm⟩
 all_goals obtain⟨q0,q1,rfl,rfl⟩:=hk
 all_goals have q1:i≤(l.length:Int):=q1
 all_goals have hl:=toAS_l (k:=k) q0 q1
 all_goals have b1:=hp.lo
 all_goals have b2:=hp.hi
 all_goals have b3:=hp.n
 all_goals try (have hlt:i<(l.length:Int):=by have h7:i<((toAS k l i).length : Int):=lt_of ‹_›;omega)
 all_goals try (have hge:(l.length:Int)≤i:=by have h7:((toAS k l i).length : Int)≤i:=ge_of ‹_›;omega)
 ·exact in64 (by show _≤k+7*i+1∧k+7*i+1≤_;omega)
 ·exact in64 (by show _≤k+7*i+1+1∧k+7*i+1+1≤_;omega)
 ·exact in64 (by show _≤k+7*i+1+1+1∧k+7*i+1+1+1≤_;omega)
 ·exact in64 (by show _≤k+7*i+1+1+1+1∧k+7*i+1+1+1+1≤_;omega)
 ·show 0≤k+7*i+1+1+1+1
  omega
 ·show k+7*i+1+1+1+1≤1152921504606846976
  omega
 ·exact in64 (by show _≤k+7*i+1+1+1+1+1∧k+7*i+1+1+1+1+1≤_;omega)
 ·show 0≤k+7*i+1+1+1+1+1
  omega
 ·show k+7*i+1+1+1+1+1≤1152921504606846976
  omega
 ·exact in64 (by show _≤k+7*i+1+1+1+1+1+1∧k+7*i+1+1+1+1+1+1≤_;omega)
 ·exact in64 (by show _≤k+7*i+1+1+1+1+1+1+1∧k+7*i+1+1+1+1+1+1+1≤_;omega)
 ·exact in64 (by show _≤i+1∧i+1≤_;omega)
 ·refine⟨by show 0≤i+1;omega,by show i+1≤(l.length:Int);omega,by show k+7*i+1+1+1+1+1+1+1=k+7*(i+1);omega,?_⟩
  show chA (toAS k l i) i (k+7*i)=toAS k l (i+1)
  rw [chA_eq q0 (by omega)]
  exact toAS_s q0 hlt
 ·show ((l.length:Int)-(i+1)).toNat < ((l.length:Int)-i).toNat
  omega
 ·exact congrArg (fun z=>Ob.own shAc z 210) (toAS_n hge q1)
 ·show k+7*i=k+7*(l.length:Int)
  omega
def sp_l_markRecord (p:Pr):MSpec:=msp mRc (fun (r,k)=>KnA k r.acts) (fun (r,k)=>.i .i64 (endA k r.acts)) (fun (r,k)=>[(0,.own shAc (markAS k r.acts) 210)])
theorem ok_l_markRecord:MOk Tryz.prog 47 (sp_l_markRecord std):=by
 refine MOk.go (c:=cx std [] [(119,sp_l_markActionS std)] 1) (cx_ok .nil (.cons ok_l_markActionS .nil)) mixed Tryz.func47 rfl rfl (by kernel_rfl) ?_
 rintro ⟨r,k⟩ hp
 dsimp only at hp
 refine⟨rfl,?_⟩
 unfold sp_l_markActionS
 generalize hP:std=p,hB0:endA=B0,hB1:markAS=B1
 cbv
 repeat' first
  | (refine fun (_:Unit)=>?_;cbv)
  | (refine aI2 (fun h=>?_) (fun h=>?_)<;>cbv)
  | (refine aI2 ?_ ?_)
  | (refine Or.inl (fun (_:Unit)=>?_);cbv)
 all_goals subst hP hB0 hB1
 all_goals try exact fin
end Ax
end Go.Proofs.YtghmphmbpdiflaaGreatDoor
