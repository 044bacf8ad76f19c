/-
  What a record leads to, of the impl package: what does not begin; Records, of the impl package: where they end; The laws package: records: sizes, what is handed on, whether the same; What setups and records come in as; The laws package: the law of CheckRecord.
  Conditions: as each part below says.
-/
import Derived.Test.YtmomiifkdfmahaaGreatDoorC45
import Derived.Test.YtmomiifkdfmahaaGreatDoorC36
import Derived.Test.YtmomiifkdfmahaaGreatDoorC18
set_option linter.unusedSimpArgs false
set_option linter.unusedVariables false
namespace Go.Proofs.YtmomiifkdfmahaaGreatDoor
namespace Ax
set_option maxRecDepth 100000
set_option maxHeartbeats 20000000
theorem rn1 {u:Su} {r:Rcd} (h:RnP u r) (h1:suB u=true) (h2:rcB r=true) (h3:std.eqI (bgnC u (sbS u.ts r.seed)) 0=true):False:=by
 have e:bgC u r=bgnC u (shufL (allT u.ts) r.seed):=if_pos (by rw [h1,h2];rfl)
 have h4:=h2
 unfold rcB rcT at h4
 simp only [Bool.and_eq_true] at h4
 rw [(sb_0 (su_ts h1) h4.2.1).2] at h3
 exact h.c (e.trans (eqI_t h3))
theorem rn_b {u:Su} {r:Rcd} (h1:suB u=true) (h2:rcB r=true):sbS u.ts r.seed=shufL (allT u.ts) r.seed∧bgC u r=bgnC u (sbS u.ts r.seed):=by
 have h4:=h2
 unfold rcB rcT at h4
 simp only [Bool.and_eq_true] at h4
 have e:=(sb_0 (su_ts h1) h4.2.1).2
 exact⟨e,by rw [e];exact if_pos (by rw [h1,h2];rfl)⟩
def rp0:List PV:=gmK gm0 .esl .esl .esl .esl .esl .esl ++[.esl,.esl,.i .i64 0,.i .i64 0]
def sp_i_replayed_n (p:Pr):FSpec:=fsp (ac (aA aSu) (a1 (aA aRcd))) (fun (u,r)=>RnP u r) (fun (u,r)=>.tup [.agg rp0,.i .i64 (bgC u r)])
theorem ok_i_replayed_n:FOk Tryz.prog 25 (sp_i_replayed_n std):=by
 refine FOk.go (c:=cx std [(45,sp_i_ValidSetup std),(46,sp_i_ValidRecord std),(47,sp_i_ShuffleBag std),(48,sp_i_StartGameF std),(49,sp_i_DoActionF std),(50,sp_cloneNF std)] [] 0) (cx_ok (.cons ok_i_ValidSetup (.cons ok_i_ValidRecord (.cons ok_i_ShuffleBag (.cons ok_i_StartGameF (.cons ok_i_DoActionF (.cons ok_cloneNF .nil)))))) .nil) mixed Tryz.func25 rfl rfl rfl (by kernel_rfl) ?_
 rintro ⟨u,r⟩ hp
 dsimp only at hp
 refine⟨rfl,?_⟩
 unfold sp_i_ValidSetup sp_i_ValidRecord sp_i_ShuffleBag sp_i_StartGameF sp_i_DoActionF sp_cloneNF
 obtain⟨H,hH⟩ : ∃H:Hd (Int×List UInt8×List Int×List Int×Int×List (List UInt8)×Int×List UInt8×List UInt8×Int×Int×Int×List UInt8×List UInt8×List UInt8×List (List UInt8)×List Int×List Int×Int×Int×Int×Int×Int×Int×Bool×List UInt8×List UInt8×List UInt8×Int×Int×Bool×List (List Int)×List Int),H=⟨fun (k,x0,x1,x2,x3,x4,x5,x6,x7,x8,x9,x10,x11,x12,x13,x14,x15,x16,x17,x18,x19,x20,x21,x22,x23,x24,x25,x26,x27,x28,x29,S,P)=>False,fun (k,x0,x1,x2,x3,x4,x5,x6,x7,x8,x9,x10,x11,x12,x13,x14,x15,x16,x17,x18,x19,x20,x21,x22,x23,x24,x25,x26,x27,x28,x29,S,P)=>0,(· < ·)⟩:=⟨_,rfl⟩
 have hl : ∀m n,H.lt m n→m<n:=by subst hH;exact fun _ _ h=>h
 generalize hP:std=p
 generalize hB0:suB=B0
 generalize hB1:rcB=B1
 generalize hB2:sbS=B2
 generalize hB3:sbC=B3
 generalize hB4:bgnR=B4
 generalize hB5:bgnC=B5
 generalize hB6:bgC=B6
 generalize hB7:daR=B7
 generalize hB8:daP=B8
 generalize hB9:daC=B9
 cbv
 repeat' first
  | (refine fun (_:Unit)=>?_;cbv)
  | (refine Or.inr ⟨49,[(.c 4 30,[.r [.i .i64]],22),(.c 4 31,[.i .i64],2)],rpV,[.c 4 30,.c 4 31],[],H,rfl,hl,?_,fun ((k,x0,x1,x2,x3,x4,x5,x6,x7,x8,x9,x10,x11,x12,x13,x14,x15,x16,x17,x18,x19,x20,x21,x22,x23,x24,x25,x26,x27,x28,x29,S,P):Int×List UInt8×List Int×List Int×Int×List (List UInt8)×Int×List UInt8×List UInt8×Int×Int×Int×List UInt8×List UInt8×List UInt8×List (List UInt8)×List Int×List Int×Int×Int×Int×Int×Int×Int×Bool×List UInt8×List UInt8×List UInt8×Int×Int×Bool×List (List Int)×List Int) hk=>?_⟩<;>cbv)
  | (refine And.intro (fun h=>?_) (fun h=>?_)<;>cbv)
  | (refine And.intro ?_ ?_)
 all_goals subst hP hB0 hB1 hB2 hB3 hB4 hB5 hB6 hB7 hB8 hB9 hH
 all_goals clear hl
 all_goals try dsimp only at hk
 all_goals try dsimp only
 all_goals try (exfalso;exact hk)
 all_goals try (exfalso;exact rn1 hp (by assumption) (by assumption) (by assumption))
 all_goals try exact fin
 all_goals try (have h1:suB u=true:=by assumption)
 all_goals try (have h2:rcB r=true:=by assumption)
 ·exact hp.q.sq
 ·exact hp.q.rq
 ·have h2:rcB r=false:=by assumption
  exact (bg_1 (u:=u) (r:=r) (by rw [h1,h2];rfl)).1.symm
 ·exact hp.q.sq.ts
 ·exact (⟨hp.q.sq,hp.q.sc,by rw [(rn_b h1 h2).1];exact Nat.le_trans (bag_bd h1 _) (by decide)⟩:SiL u (sbS u.ts r.seed))
 ·exact (rn_b h1 h2).2.symm
 ·have h1:suB u=false:=by assumption
  exact (bg_1 (u:=u) (r:=r) (by rw [h1];rfl)).1.symm
end Ax
end Go.Proofs.YtmomiifkdfmahaaGreatDoor
namespace Go.Proofs.YtmomiifkdfmahaaGreatDoor
namespace Ax
set_option maxRecDepth 100000
set_option maxHeartbeats 20000000
def sp_i_CheckRecord_y (p:Pr):FSpec:=fsp (ac (aA aSu) (a1 (aA aRcd))) (fun (u,r)=>RyP u r) (fun (u,r)=>.tup [.i .i64 (rpI (bgG u r) r),.i .i64 (ruC (bgG u r) r),.i .i64 0])
theorem ok_i_CheckRecord_y:FOk Tryz.prog 10 (sp_i_CheckRecord_y std):=by
 refine FOk.go (c:=cx std [(25,sp_i_replayed_y std)] [] 0) (cx_ok (.cons ok_i_replayed_y .nil) .nil) mixed Tryz.func10 rfl rfl rfl (by kernel_rfl) ?_
 rintro ⟨u,r⟩ hp
 dsimp only at hp
 refine⟨rfl,?_⟩
 unfold sp_i_replayed_y
 generalize hP:std=p
 generalize hB0:bgG=B0
 generalize hB1:rpZ=B1
 generalize hB2:rpS=B2
 generalize hB3:ruP=B3
 generalize hB4:rpI=B4
 generalize hB5:ruC=B5
 cbv
 repeat' first
  | (refine fun (_:Unit)=>?_;cbv)
  | (refine And.intro (fun h=>?_) (fun h=>?_)<;>cbv)
  | (refine And.intro ?_ ?_)
  | (refine Or.inl (fun (_:Unit)=>?_);cbv)
 all_goals subst hP hB0 hB1 hB2 hB3 hB4 hB5
 all_goals try exact fin
def sp_i_CheckRecord_n (p:Pr):FSpec:=fsp (ac (aA aSu) (a1 (aA aRcd))) (fun (u,r)=>RnP u r) (fun (u,r)=>.tup [.i .i64 0,.i .i64 0,.i .i64 (bgC u r)])
theorem ok_i_CheckRecord_n:FOk Tryz.prog 10 (sp_i_CheckRecord_n std):=by
 refine FOk.go (c:=cx std [(25,sp_i_replayed_n std)] [] 0) (cx_ok (.cons ok_i_replayed_n .nil) .nil) mixed Tryz.func10 rfl rfl rfl (by kernel_rfl) ?_
 rintro ⟨u,r⟩ hp
 dsimp only at hp
 refine⟨rfl,?_⟩
 unfold sp_i_replayed_n
 generalize hP:std=p
 generalize hB0:bgC=B0
 cbv
 repeat' first
  | (refine fun (_:Unit)=>?_;cbv)
  | (refine And.intro (fun h=>?_) (fun h=>?_)<;>cbv)
  | (refine And.intro ?_ ?_)
  | (refine Or.inl (fun (_:Unit)=>?_);cbv)
 all_goals subst hP hB0
 all_goals try exact fin
def sp_i_CheckRecord (p:Pr):FSpec:=fsp (ac (aA aSu) (a1 (aA aRcd))) (fun (u,r)=>RpL u r) (fun (u,r)=>.tup [.i .i64 (crI u r),.i .i64 (crB u r),.i .i64 (bgC u r)])
theorem ok_i_CheckRecord:FOk Tryz.prog 10 (sp_i_CheckRecord std):=FOk.casesE ok_i_CheckRecord_y ok_i_CheckRecord_n fun ⟨u,r⟩ hp=>by
 by_cases hc:bgC u r=0
 ·refine .inl ⟨⟨hp,hc⟩,?_,rfl⟩
  show PV.tup [.i .i64 (rpI (bgG u r) r),.i .i64 (ruC (bgG u r) r),.i .i64 0]=PV.tup [.i .i64 (crI u r),.i .i64 (crB u r),.i .i64 (bgC u r)]
  rw [hc]
  by_cases h2:ruC (bgG u r) r=0
  ·have e:=cr_e hc (by rw [bg_eq hc];exact h2)
   rw [e.1,e.2,h2,show rpI (bgG u r) r= -1 from if_pos h2]
  ·have e:=cr_f hc (by rw [bg_eq hc];exact h2)
   rw [e.1,e.2,bg_eq hc,show rpI (bgG u r) r=((ruL (bgG u r) r).length : Int) from if_neg h2]
 ·refine .inr ⟨⟨hp,hc⟩,?_,rfl⟩
  show PV.tup [.i .i64 0,.i .i64 0,.i .i64 (bgC u r)]=PV.tup [.i .i64 (crI u r),.i .i64 (crB u r),.i .i64 (bgC u r)]
  rw [(cr_n hc).1,(cr_n hc).2]
end Ax
end Go.Proofs.YtmomiifkdfmahaaGreatDoor
namespace Go.Proofs.YtmomiifkdfmahaaGreatDoor
namespace Ax
set_option maxRecDepth 100000
set_option maxHeartbeats 2000000
def aAS:Arg (List (El shAc)):=⟨fun | .rsl [.i .i64,.i .i64,.i .i64,.b,.s,.s,.i .i64] L=>some L | _=>none,.rsl shAc,fun x a h=>by split at h<;>cases h;rfl⟩
def szAL (x:El shAc):List Int:=[((acE x).play.word.length : Int),((acE x).tiles.length : Int)]
def szAS (n:Int) (L:List (El shAc)):Int:=szL n ((L.length:Int)::L.flatMap szAL)
def restA (n:Int) (L:List (El shAc)) (k:Int):Int:=szL n ((L.drop k.toNat).flatMap szAL)
theorem restA_step {m k:Int} {L:List (El shAc)} (h0:0≤k) (h:k<L.length):restA m L k=restA (szA m (acE (L.getD k.toNat (dE shAc)))) L (k+1):=by
 unfold restA
 rw [dc h0 h (dE shAc),List.flatMap_cons,szL_app];rfl
theorem restA_neg (L:List (El shAc)) (k:Int):restA (-1) L k= -1:=szL_neg _
theorem szA_ge {n:Int} (h:0≤n) (a:Ac) : -1≤szA n a:=szL_ge (szL_ge (by omega) _) _
theorem szA_le {n:Int} {a:Ac} (h:0≤szA n a):szA n a≤n:=(zA h).2.1
structure AsZ (L:List (El shAc)):Prop where
 n:(L.length:Int)≤9223372036854775807
 a : ∀x∈L,AcZ (acE x)
theorem AsZ.at {L:List (El shAc)} (h:AsZ L) {k:Int} (h0:0≤k) (h1:k<L.length):AcZ (acE (L.getD k.toNat (dE shAc))):=
 h.a _ (by rw [List.getD_eq_getElem?_getD,List.getElem?_eq_getElem (by omega)];exact List.getElem_mem (by omega))
def sp_l_szActionS (p:Pr):FSpec:=fsp (ac aAS (a1 aI)) (fun (L,n)=>NL n∧AsZ L) (fun (L,n)=>.i .i64 (szAS n L))
theorem ok_l_szActionS:FOk Tryz.prog 18 (sp_l_szActionS std):=by
 refine FOk.go (c:=cx std [(35,sp_l_szAction std)] [] 0) (cx_ok (.cons ok_l_szAction .nil) .nil) mixed Tryz.func18 rfl rfl rfl (by kernel_rfl) ?_
 rintro ⟨L,n⟩ hp
 dsimp only at hp
 refine⟨rfl,?_⟩
 unfold sp_l_szAction
 obtain⟨H,hH⟩ : ∃H:Hd (Int×Int),H=⟨fun (m,k)=>0≤k∧k≤L.length∧NL m∧szAS n L=restA m L k,fun (m,k)=>(L.length-k).toNat,(· < ·)⟩:=⟨_,rfl⟩
 have hl : ∀m n,H.lt m n→m<n:=by subst hH;exact fun _ _ h=>h
 generalize hP:std=p
 generalize hB0:szAS=B0
 generalize hB1:restA=B1
 generalize hB2:szA=B2
 cbv
 repeat' first
  | (refine fun (_:Unit)=>?_;cbv)
  | (refine Or.inr ⟨12,[],[.s 1 (.i .i64),.s 5 (.i .i64)],[],[],H,rfl,hl,?_,fun ((m,k):Int×Int) hk=>?_⟩<;>cbv)
  | (refine And.intro (fun h=>?_) (fun h=>?_)<;>cbv)
  | (refine And.intro ?_ ?_)
 all_goals subst hP hB0 hB1 hB2 hH
 all_goals clear hl
 all_goals try dsimp only at hk
 all_goals try dsimp only
 all_goals try exact fin
 all_goals obtain⟨⟨n0,n1⟩,hz⟩:=hp
 all_goals have h3:(L.length:Int)≤9223372036854775807:=hz.n
 ·exact in64 (by show _≤n-(L.length:Int)∧n-(L.length:Int)≤_;omega)
 ·have h4:n-(L.length:Int)<0:=lt_of h
  rw [szAS,szL_cons,szL_one n0,if_pos h4,szL_neg]
 ·have h4:0≤n-(L.length:Int):=ge_of h
  refine⟨Int.le_refl 0,Int.natCast_nonneg _,⟨h4,by show n-(L.length:Int)≤_;omega⟩,?_⟩
  rw [szAS,szL_cons,szL_one n0,if_neg (by omega)];rfl
 all_goals obtain⟨q0,q1,⟨m0,m1⟩,e⟩:=hk
 all_goals try (have hlt:k<(L.length:Int):=lt_of (by assumption))
 ·exact hz.at q0 hlt
 ·have hs:szA m (acE (L.getD k.toNat (dE shAc)))= -1:=m_eq (szA_ge m0 _) h
  rw [e,restA_step q0 hlt,hs,restA_neg]
 ·exact in64 (by show _≤k+1∧k+1≤_;omega)
 ·have h5:0≤szA m (acE (L.getD k.toNat (dE shAc))):=ge_of h
  refine⟨by show 0≤k+1;omega,by show k+1≤(L.length:Int);omega,⟨h5,Int.le_trans (szA_le h5) m1⟩,?_⟩
  rw [e,restA_step q0 hlt];rfl
 ·rw [e,restA,dn (ge_of h)];rfl
def szR (n:Int) (r:Rcd):Int:=szAS n r.acts
def sp_l_szRecord (p:Pr):FSpec:=fsp (ac (aA aRcd) (a1 aI)) (fun (r,n)=>NL n∧AsZ r.acts) (fun (r,n)=>.i .i64 (szR n r))
theorem ok_l_szRecord:FOk Tryz.prog 6 (sp_l_szRecord std):=by
 refine FOk.go (c:=cx std [(18,sp_l_szActionS std)] [] 0) (cx_ok (.cons ok_l_szActionS .nil) .nil) mixed Tryz.func6 rfl rfl rfl (by kernel_rfl) ?_
 rintro ⟨r,n⟩ hp
 dsimp only at hp
 refine⟨rfl,?_⟩
 unfold sp_l_szActionS
 generalize hP:std=p
 generalize hB0:szR=B0
 generalize hB1:szAS=B1
 cbv
 repeat' first
  | (refine fun (_:Unit)=>?_;cbv)
  | (refine And.intro (fun h=>?_) (fun h=>?_)<;>cbv)
  | (refine And.intro ?_ ?_)
  | (refine Or.inl (fun (_:Unit)=>?_);cbv)
 all_goals subst hP hB0 hB1
 all_goals try exact fin
 ·exact (m_eq (szL_ge (by have:=hp.1.lo;omega) _) h).symm
def sp_l_toActionS (p:Pr):FSpec:=fsp (a1 aAS) (fun l=>p.leP (p.len l) 1073741824) (fun l=>.osl 0) (fun l=>[(0,.own shAc l 100)])
theorem ok_l_toActionS:FOk Tryz.prog 24 (sp_l_toActionS std):=by
 refine FOk.go (c:=cx std [(44,sp_l_toAction std)] [] 0) (cx_ok (.cons ok_l_toAction .nil) .nil) mixed Tryz.func24 rfl rfl rfl (by kernel_rfl) ?_
 rintro l hp
 refine⟨rfl,?_⟩
 unfold sp_l_toAction
 obtain⟨H,hH⟩ : ∃H:Hd (Int×List (El shAc)),H=⟨fun (k,L)=>0≤k∧k≤l.length∧L.length=l.length∧L.take k.toNat=l.take k.toNat,fun (k,L)=>(l.length-k).toNat,(· < ·)⟩:=⟨_,rfl⟩
 have hl : ∀m n,H.lt m n→m<n:=by subst hH;exact fun _ _ h=>h
 generalize hP:std=p
 cbv
 repeat' first
  | (refine fun (_:Unit)=>?_;cbv)
  | (refine Or.inr ⟨8,[],[.s 4 (.i .i64),.o 0 shAc],[],[],H,rfl,hl,?_,fun ((k,L):Int×List (El shAc)) hk=>?_⟩<;>cbv)
  | (refine And.intro (fun h=>?_) (fun h=>?_)<;>cbv)
  | (refine And.intro ?_ ?_)
 all_goals subst hP hH
 all_goals clear hl
 all_goals try dsimp only at hk
 all_goals try dsimp only
 all_goals try exact fin
 all_goals obtain⟨q0,q1,q2,q3⟩:=hk
 ·have hlt:k<(l.length:Int):=lt_of h
  exact⟨by show 0≤k+1;omega,by show k+1≤(l.length:Int);omega,by show (L.set k.toNat _).length =l.length;rw [List.length_set];exact q2,cp_set (d:=dE shAc) q0 hlt q2 q3⟩
 ·rw [cp_all (ge_of h) q2 q3]
def sp_l_toRecord (p:Pr):FSpec:=fsp (a1 (aA aRcd)) (fun r=>p.leP (p.len r.acts) 1073741824) (fun r=>.agg (rcK r (.osl 0))) (fun r=>[(0,.own shAc r.acts 100)])
theorem ok_l_toRecord:FOk Tryz.prog 9 (sp_l_toRecord std):=by
 refine FOk.go (c:=cx std [(24,sp_l_toActionS std)] [] 0) (cx_ok (.cons ok_l_toActionS .nil) .nil) mixed Tryz.func9 rfl rfl rfl (by kernel_rfl) ?_
 rintro r hp
 refine⟨rfl,?_⟩
 unfold sp_l_toActionS
 generalize hP:std=p
 cbv
 repeat' first
  | (refine fun (_:Unit)=>?_;cbv)
  | (refine And.intro (fun h=>?_) (fun h=>?_)<;>cbv)
  | (refine And.intro ?_ ?_)
  | (refine Or.inl (fun (_:Unit)=>?_);cbv)
 all_goals subst hP
 all_goals try exact fin
def sp_l_eqAction (p:Pr):FSpec:=fsp (ac (aA aAc) (a1 (aA aAc))) (fun (a,b)=>a=b) (fun (a,b)=>.bt)
theorem ok_l_eqAction:FOk Tryz.prog 53 (sp_l_eqAction std):=by
 refine FOk.go (c:=cx std [(86,sp_l_eqPlay std)] [] 0) (cx_ok (.cons ok_l_eqPlay .nil) .nil) mixed Tryz.func53 rfl rfl rfl (by kernel_rfl) ?_
 rintro ⟨a,b⟩ hp
 dsimp only at hp
 refine⟨rfl,?_⟩
 unfold sp_l_eqPlay
 generalize hP:std=p
 generalize hB0:qePl=B0
 cbv
 repeat' first
  | (refine fun (_:Unit)=>?_;cbv)
  | (refine And.intro (fun h=>?_) (fun h=>?_)<;>cbv)
  | (refine And.intro ?_ ?_)
  | (refine Or.inl (fun (_:Unit)=>?_);cbv)
 all_goals subst hP hB0
 all_goals try exact fin
 ·subst hp
  rename_i h
  rw [qePl_r] at h;cases h
def sp_l_eqActionS (p:Pr):FSpec:=fsp (ac aAS (a1 aAS)) (fun (a,b)=>a=b∧p.leP (p.len a) 1073741824) (fun (a,b)=>.bt)
theorem ok_l_eqActionS:FOk Tryz.prog 29 (sp_l_eqActionS std):=by
 refine FOk.go (c:=cx std [(53,sp_l_eqAction std)] [] 0) (cx_ok (.cons ok_l_eqAction .nil) .nil) mixed Tryz.func29 rfl rfl rfl (by kernel_rfl) ?_
 rintro ⟨a,b⟩ hp
 dsimp only at hp
 refine⟨rfl,?_⟩
 unfold sp_l_eqAction
 obtain⟨H,hH⟩ : ∃H:Hd (Int),H=⟨fun k=>0≤k∧k≤a.length,fun k=>(a.length-k).toNat,(· < ·)⟩:=⟨_,rfl⟩
 have hl : ∀m n,H.lt m n→m<n:=by subst hH;exact fun _ _ h=>h
 generalize hP:std=p
 cbv
 repeat' first
  | (refine fun (_:Unit)=>?_;cbv)
  | (refine Or.inr ⟨11,[],[.s 5 (.i .i64)],[],[],H,rfl,hl,?_,fun (k:Int) hk=>?_⟩<;>cbv)
  | (refine And.intro (fun h=>?_) (fun h=>?_)<;>cbv)
  | (refine And.intro ?_ ?_)
 all_goals subst hP hH
 all_goals clear hl
 all_goals try dsimp only at hk
 all_goals try dsimp only
 all_goals try exact fin
def sp_l_eqRecord (p:Pr):FSpec:=fsp (ac (aA aRcd) (a1 (aA aRcd))) (fun (a,b)=>a=b∧p.leP (p.len a.acts) 1073741824) (fun (a,b)=>.bt)
theorem ok_l_eqRecord:FOk Tryz.prog 12 (sp_l_eqRecord std):=by
 refine FOk.go (c:=cx std [(29,sp_l_eqActionS std)] [] 0) (cx_ok (.cons ok_l_eqActionS .nil) .nil) mixed Tryz.func12 rfl rfl rfl (by kernel_rfl) ?_
 rintro ⟨a,b⟩ hp
 dsimp only at hp
 refine⟨rfl,?_⟩
 unfold sp_l_eqActionS
 generalize hP:std=p
 cbv
 repeat' first
  | (refine fun (_:Unit)=>?_;cbv)
  | (refine And.intro (fun h=>?_) (fun h=>?_)<;>cbv)
  | (refine And.intro ?_ ?_)
  | (refine Or.inl (fun (_:Unit)=>?_);cbv)
 all_goals subst hP
 all_goals try exact fin
structure LawR (u:Su) (r:Rcd):Prop where
 u:SuZ u
 r:AsZ r.acts
theorem zU {n:Int} {u:Su} (h:0≤szU n u) (hn:n≤1048576):0≤n∧szU n u≤n∧SuB 1048576 u:=by
 have a9:=zB (show 0≤szB (szW (szT n u.ts) u.lex) u.bd from h)
 have b1:=zW a9.1
 have b2:=zT b1.1
 have e:szU n u=szB (szW (szT n u.ts) u.lex) u.bd:=rfl
 exact⟨b2.1,by omega,b2.2.2.le hn,WsB.le ⟨b1.2.2.1,b1.2.2.2⟩ (by omega),BdB.le ⟨a9.2.2.1,a9.2.2.2⟩ (by omega)⟩
theorem natA (L:List (El shAc)) : ∀k∈(L.length:Int)::L.flatMap szAL,0≤k:=by
 intro k hk
 rcases List.mem_cons.1 hk with rfl | hk
 ·exact Int.natCast_nonneg _
 ·obtain⟨x, -,hx⟩:=List.mem_flatMap.1 hk
  simp only [szAL,List.mem_cons,List.not_mem_nil,or_false] at hx
  rcases hx with rfl | rfl<;>exact Int.natCast_nonneg _
theorem zR {n:Int} {r:Rcd} (h:0≤szR n r) (hn:n≤1048576):RcL r:=by
 obtain⟨h1, -,h3⟩:=szL_le (natA r.acts) h
 refine⟨Int.le_trans (h3 _ List.mem_cons_self) hn,fun k=>?_⟩
 unfold acN
 rw [List.getD_eq_getElem?_getD]
 cases hk:r.acts[k.toNat]? with
 | none=>exact⟨by decide,by decide⟩
 | some x=>
   have hm : ∀y∈szAL x,y≤n:=fun y hy=>h3 y (List.mem_cons_of_mem _ (List.mem_flatMap.2 ⟨x,List.mem_of_getElem? hk,hy⟩))
   exact⟨Int.le_trans (hm _ (by simp [szAL])) hn,Int.le_trans (hm _ (by simp [szAL])) hn⟩
theorem SuB.n {u:Su} (h:SuB 1048576 u):SuN u:=by
 have h1:=h.ts.v;have h2:=h.ts.c;have h3:=h.lx.l
 exact⟨⟨by omega,by omega⟩,by omega⟩
end Ax
end Go.Proofs.YtmomiifkdfmahaaGreatDoor
namespace Go.Proofs.YtmomiifkdfmahaaGreatDoor
open Go.ChangeShapes Go.WideShapes Go.ChangeAt Go.RowKit Go.Joins
set_option maxRecDepth 100000
namespace Ax
def shSu:List AtTy:=[.s,.r [.i .i64],.r [.i .i64],.i .i64,.r [.s],.i .i64,.s,.s,.i .i64,.i .i64]
def shRc:List AtTy:=[.i .i64,.r [.i .i64,.i .i64,.i .i64,.b,.s,.s,.i .i64]]
theorem flat_su:flatT tyT 6 31=some shSu:=by kernel_rfl
theorem flat_rc:flatT tyT 6 34=some shRc:=by kernel_rfl
theorem vok_su {w:World} {fz:Nat→Prop} {l:List PV} {cs:List Value} (h:VOk w fz shSu l cs) : ∃u:Su,l=suK u (.rsl [.i .i64] u.ts.values) (.rsl [.i .i64] u.ts.counts) (.rsl [.s] u.lex)∧SuZ u:=by
 obtain⟨a0,_,_,_,rfl, -,z0, -,a1,_,_,_,rfl, -,z1, -,a2,_,_,_,rfl, -,z2, -,a3,_,_,_,rfl, -, -, -,a4,_,_,_,rfl, -,z4, -,a5,_,_,_,rfl, -, -, -,a6,_,_,_,rfl, -,z6, -,a7,_,_,_,rfl, -,z7, -,a8,_,_,_,rfl, -, -, -,a9,_,_,_,rfl, -, -, -,rfl, -⟩:=h
 exact⟨⟨⟨a0,a1,a2,a3⟩,a4,⟨a5,a6,a7⟩,a8,a9⟩,rfl,⟨⟨szs z0,szn z1,szn z2⟩,szw z4,⟨szs z6,szs z7⟩⟩⟩
theorem sza {x:El shAc} (h:SzE shAc x):AcZ (acE x):=by
 simp only [SzE,SzEs] at h
 exact⟨szs h.2.2.2.2.1,szs h.2.2.2.2.2.1⟩
theorem vok_rc {w:World} {fz:Nat→Prop} {l:List PV} {cs:List Value} (h:VOk w fz shRc l cs) : ∃r:Rcd,l=rcK r (.rsl shAc r.acts)∧AsZ r.acts:=by
 obtain⟨x0,_,_,_,rfl, -, -, -,x1,_,_,_,rfl, -,z1, -,rfl, -⟩:=h
 refine⟨⟨x0,x1⟩,rfl,?_⟩
 unfold SzA at z1
 exact⟨z1.1,fun y hy=>sza (z1.2 y hy)⟩
end Ax
end Go.Proofs.YtmomiifkdfmahaaGreatDoor
namespace Go.Proofs.YtmomiifkdfmahaaGreatDoor
namespace Ax
set_option maxRecDepth 100000
set_option maxHeartbeats 20000000
def sp_l_FnExactCheckRecord (p:Pr):FSpec:=fsp (ac (aA aSu) (a1 (aA aRcd))) (fun (u,r)=>LawR u r) (fun (u,r)=>.bt)
theorem ok_l_FnExactCheckRecord:FOk Tryz.prog 3 (sp_l_FnExactCheckRecord std):=by
 refine FOk.go (c:=cx std [(5,sp_l_szSetup std),(6,sp_l_szRecord std),(8,sp_l_toSetup std),(9,sp_l_toRecord std),(7,sp_s_CheckRecord std),(10,sp_i_CheckRecord std),(11,sp_l_eqSetup std),(12,sp_l_eqRecord std)] [] 0) (cx_ok (.cons ok_l_szSetup (.cons ok_l_szRecord (.cons ok_l_toSetup (.cons ok_l_toRecord (.cons ok_s_CheckRecord (.cons ok_i_CheckRecord (.cons ok_l_eqSetup (.cons ok_l_eqRecord .nil)))))))) .nil) mixed Tryz.func3 rfl rfl rfl (by kernel_rfl) ?_
 rintro ⟨u,r⟩ hp
 dsimp only at hp
 refine⟨rfl,?_⟩
 unfold sp_l_szSetup sp_l_szRecord sp_l_toSetup sp_l_toRecord sp_s_CheckRecord sp_i_CheckRecord sp_l_eqSetup sp_l_eqRecord
 generalize hP:std=p
 generalize hB0:szU=B0
 generalize hB1:szR=B1
 generalize hB2:crI=B2
 generalize hB3:crB=B3
 generalize hB4:bgC=B4
 generalize hB5:qeSu=B5
 cbv
 repeat' first
  | (refine fun (_:Unit)=>?_;cbv)
  | (refine And.intro (fun h=>?_) (fun h=>?_)<;>cbv)
  | (refine And.intro ?_ ?_)
  | (refine Or.inl (fun (_:Unit)=>?_);cbv)
 all_goals subst hP hB0 hB1 hB2 hB3 hB4 hB5
 all_goals try exact fin
 all_goals (try simp only [eta_ts,eta_bd,eta_suw,eta_rcd] at *)
 ·exact⟨by decide,by decide⟩
 ·have h0:0≤szU 1048576 u:=ge_of h
  exact⟨h0,(zU h0 (by decide)).2.1⟩
 all_goals have h0:0≤szU 1048576 u:=ge_of (by with_reducible assumption)
 all_goals have h1:0≤szR (szU 1048576 u) r:=ge_of (by with_reducible assumption)
 all_goals have hU:=(zU h0 (by decide)).2.2
 all_goals have hR:=zR h1 (zU h0 (by decide)).2.1
 all_goals have hn:=hR.n
 all_goals first
  | exact hU.n
  | exact⟨hU,hR⟩
  | exact Int.le_trans hn (by decide)
  | (rw [qeSu_r] at h;cases h)
end Ax
end Go.Proofs.YtmomiifkdfmahaaGreatDoor
