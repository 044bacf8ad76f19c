/-
  Small functions of the laws of games: walked.
  Conditions: none.
-/
import Derived.Test.YtjjonmhpgkahoaaGreatDoorE18
import Derived.Test.YtjjonmhpgkahoaaGreatDoorE24
import Derived.Test.YtjjonmhpgkahoaaGreatDoorE25
import Derived.Test.YtjjonmhpgkahoaaGreatDoorE43
import Derived.Test.YtjjonmhpgkahoaaGreatDoorE34
set_option linter.unusedSimpArgs false
set_option linter.unusedVariables false
namespace Go.Proofs.YtjjonmhpgkahoaaGreatDoor
namespace Ax
set_option maxRecDepth 100000
set_option maxHeartbeats 2000000
def sp_s_l00Same (p:Pr):FSpec:=fsp (ac aN (a1 aN)) (fun (a,b)=>p.leP (p.len a) 1073741824) (fun (a,b)=>.b (qeN a b))
theorem ok_s_l00Same:FOk Tryz.prog 78 (sp_s_l00Same std):=by
 refine FOk.go (c:=cx std [] [] 0) (cx_ok .nil .nil) mixed Tryz.func78 rfl rfl rfl (by kernel_rfl) ?_
 rintro ⟨a,b⟩ hp
 dsimp only at hp
 refine⟨rfl,?_⟩
 obtain⟨H,hH⟩ : ∃H:Hd (Int),H=⟨fun k=>0≤k∧k≤a.length∧a.length=b.length∧a.take k.toNat=b.take k.toNat,fun k=>(a.length-k).toNat,(· < ·)⟩:=⟨_,rfl⟩
 have hl : ∀m n,H.lt m n→m<n:=by subst hH;exact fun _ _ h=>h
 generalize hP:std=p,hB0:qeN=B0
 cbv
 repeat' first
  | (refine fun (_:Unit)=>?_;cbv)
  | (refine Or.inr ⟨11,[],[.s 5 (.i .i64)],[],[],H,rfl,hl,?_,fun (k:Int) hk=>?_⟩<;>cbv)
  | (refine aI2 (fun h=>?_) (fun h=>?_)<;>cbv)
  | (refine aI2 ?_ ?_)
 all_goals subst hP hB0 hH
 all_goals clear hl
 all_goals try dsimp only at hk
 all_goals try dsimp only
 all_goals try exact fin
 ·show (a==b)=false
  exact beq_eq_false_iff_ne.2 fun e=>beq_eq_false_iff_ne.1 (show ((a.length:Int)==(b.length:Int))=false from h) (by rw [e])
 all_goals obtain⟨q0,q1,q2,q3⟩:=hk
 ·show (a==b)=false
  exact beq_eq_false_iff_ne.2 (eq_no (d:=0) (k:=k) (beq_eq_false_iff_ne.1 (show (a.getD k.toNat 0==b.getD k.toNat 0)=false from h)))
 ·have hlt:k<(a.length:Int):=lt_of ‹_›
  exact⟨by show 0≤k+1;omega,by show k+1≤(a.length:Int);omega,q2,eq_tk q0 hlt q2 q3 (beq_iff_eq.1 (show (a.getD k.toNat 0==b.getD k.toNat 0)=true from h))⟩
 ·show (a==b)=true
  exact beq_iff_eq.2 (eq_al (ge_of h) q2 q3)
def sp_s_l05Same (p:Pr):FSpec:=fsp (ac aW (a1 aW)) (fun (a,b)=>p.leP (p.len a) 1073741824) (fun (a,b)=>.b (qeW a b))
theorem ok_s_l05Same:FOk Tryz.prog 77 (sp_s_l05Same std):=by
 refine FOk.go (c:=cx std [] [] 0) (cx_ok .nil .nil) mixed Tryz.func77 rfl rfl rfl (by kernel_rfl) ?_
 rintro ⟨a,b⟩ hp
 dsimp only at hp
 refine⟨rfl,?_⟩
 obtain⟨H,hH⟩ : ∃H:Hd (Int),H=⟨fun k=>0≤k∧k≤a.length∧a.length=b.length∧a.take k.toNat=b.take k.toNat,fun k=>(a.length-k).toNat,(· < ·)⟩:=⟨_,rfl⟩
 have hl : ∀m n,H.lt m n→m<n:=by subst hH;exact fun _ _ h=>h
 generalize hP:std=p,hB0:qeW=B0
 cbv
 repeat' first
  | (refine fun (_:Unit)=>?_;cbv)
  | (refine Or.inr ⟨11,[],[.s 5 (.i .i64)],[],[],H,rfl,hl,?_,fun (k:Int) hk=>?_⟩<;>cbv)
  | (refine aI2 (fun h=>?_) (fun h=>?_)<;>cbv)
  | (refine aI2 ?_ ?_)
 all_goals subst hP hB0 hH
 all_goals clear hl
 all_goals try dsimp only at hk
 all_goals try dsimp only
 all_goals try exact fin
 ·show (a==b)=false
  exact beq_eq_false_iff_ne.2 fun e=>beq_eq_false_iff_ne.1 (show ((a.length:Int)==(b.length:Int))=false from h) (by rw [e])
 all_goals obtain⟨q0,q1,q2,q3⟩:=hk
 ·show (a==b)=false
  exact beq_eq_false_iff_ne.2 (eq_no (d:=[]) (k:=k) (beq_eq_false_iff_ne.1 (show (a.getD k.toNat []==b.getD k.toNat [])=false from h)))
 ·have hlt:k<(a.length:Int):=lt_of ‹_›
  exact⟨by show 0≤k+1;omega,by show k+1≤(a.length:Int);omega,q2,eq_tk q0 hlt q2 q3 (beq_iff_eq.1 (show (a.getD k.toNat []==b.getD k.toNat [])=true from h))⟩
 ·show (a==b)=true
  exact beq_iff_eq.2 (eq_al (ge_of h) q2 q3)
def sp_l_f6ints (p:Pr):FSpec:=fsp (ac aN (a1 aN)) (fun (a,b)=>p.leP (p.len a) 1073741824) (fun (a,b)=>.b (qeN a b))
theorem ok_l_f6ints:FOk Tryz.prog 32 (sp_l_f6ints std):=by
 refine FOk.go (c:=cx std [] [] 0) (cx_ok .nil .nil) mixed Tryz.func32 rfl rfl rfl (by kernel_rfl) ?_
 rintro ⟨a,b⟩ hp
 dsimp only at hp
 refine⟨rfl,?_⟩
 obtain⟨H,hH⟩ : ∃H:Hd (Int),H=⟨fun k=>0≤k∧k≤a.length∧a.length=b.length∧a.take k.toNat=b.take k.toNat,fun k=>(a.length-k).toNat,(· < ·)⟩:=⟨_,rfl⟩
 have hl : ∀m n,H.lt m n→m<n:=by subst hH;exact fun _ _ h=>h
 generalize hP:std=p,hB0:qeN=B0
 cbv
 repeat' first
  | (refine fun (_:Unit)=>?_;cbv)
  | (refine Or.inr ⟨11,[],[.s 5 (.i .i64)],[],[],H,rfl,hl,?_,fun (k:Int) hk=>?_⟩<;>cbv)
  | (refine aI2 (fun h=>?_) (fun h=>?_)<;>cbv)
  | (refine aI2 ?_ ?_)
 all_goals subst hP hB0 hH
 all_goals clear hl
 all_goals try dsimp only at hk
 all_goals try dsimp only
 all_goals try exact fin
 ·show (a==b)=false
  exact beq_eq_false_iff_ne.2 fun e=>beq_eq_false_iff_ne.1 (show ((a.length:Int)==(b.length:Int))=false from h) (by rw [e])
 all_goals obtain⟨q0,q1,q2,q3⟩:=hk
 ·show (a==b)=false
  exact beq_eq_false_iff_ne.2 (eq_no (d:=0) (k:=k) (beq_eq_false_iff_ne.1 (show (a.getD k.toNat 0==b.getD k.toNat 0)=false from h)))
 ·have hlt:k<(a.length:Int):=lt_of ‹_›
  exact⟨by show 0≤k+1;omega,by show k+1≤(a.length:Int);omega,q2,eq_tk q0 hlt q2 q3 (beq_iff_eq.1 (show (a.getD k.toNat 0==b.getD k.toNat 0)=true from h))⟩
 ·show (a==b)=true
  exact beq_iff_eq.2 (eq_al (ge_of h) q2 q3)
def sp_l_f6same (p:Pr):FSpec:=fsp (ac aW (a1 aW)) (fun (a,b)=>p.leP (p.len a) 1073741824) (fun (a,b)=>.b (qeW a b))
theorem ok_l_f6same:FOk Tryz.prog 38 (sp_l_f6same std):=by
 refine FOk.go (c:=cx std [] [] 0) (cx_ok .nil .nil) mixed Tryz.func38 rfl rfl rfl (by kernel_rfl) ?_
 rintro ⟨a,b⟩ hp
 dsimp only at hp
 refine⟨rfl,?_⟩
 obtain⟨H,hH⟩ : ∃H:Hd (Int),H=⟨fun k=>0≤k∧k≤a.length∧a.length=b.length∧a.take k.toNat=b.take k.toNat,fun k=>(a.length-k).toNat,(· < ·)⟩:=⟨_,rfl⟩
 have hl : ∀m n,H.lt m n→m<n:=by subst hH;exact fun _ _ h=>h
 generalize hP:std=p,hB0:qeW=B0
 cbv
 repeat' first
  | (refine fun (_:Unit)=>?_;cbv)
  | (refine Or.inr ⟨11,[],[.s 5 (.i .i64)],[],[],H,rfl,hl,?_,fun (k:Int) hk=>?_⟩<;>cbv)
  | (refine aI2 (fun h=>?_) (fun h=>?_)<;>cbv)
  | (refine aI2 ?_ ?_)
 all_goals subst hP hB0 hH
 all_goals clear hl
 all_goals try dsimp only at hk
 all_goals try dsimp only
 all_goals try exact fin
 ·show (a==b)=false
  exact beq_eq_false_iff_ne.2 fun e=>beq_eq_false_iff_ne.1 (show ((a.length:Int)==(b.length:Int))=false from h) (by rw [e])
 all_goals obtain⟨q0,q1,q2,q3⟩:=hk
 ·show (a==b)=false
  exact beq_eq_false_iff_ne.2 (eq_no (d:=[]) (k:=k) (beq_eq_false_iff_ne.1 (show (a.getD k.toNat []==b.getD k.toNat [])=false from h)))
 ·have hlt:k<(a.length:Int):=lt_of ‹_›
  exact⟨by show 0≤k+1;omega,by show k+1≤(a.length:Int);omega,q2,eq_tk q0 hlt q2 q3 (beq_iff_eq.1 (show (a.getD k.toNat []==b.getD k.toNat [])=true from h))⟩
 ·show (a==b)=true
  exact beq_iff_eq.2 (eq_al (ge_of h) q2 q3)
def bigB (l:List Int):Bool:=decide ((4096:Int)<l.length)
def sp_l_f6big (p:Pr):FSpec:=fsp (a1 aY) (fun l=>True) (fun l=>.b (bigB l))
theorem ok_l_f6big:FOk Tryz.prog 9 (sp_l_f6big std):=by
 refine FOk.go (c:=cx std [] [] 0) (cx_ok .nil .nil) mixed Tryz.func9 rfl rfl rfl (by kernel_rfl) ?_
 rintro l hp
 refine⟨rfl,?_⟩
 generalize hP:std=p,hB0:bigB=B0
 cbv
 repeat' first
  | (refine fun (_:Unit)=>?_;cbv)
  | (refine aI2 (fun h=>?_) (fun h=>?_)<;>cbv)
  | (refine aI2 ?_ ?_)
  | (refine Or.inl (fun (_:Unit)=>?_);cbv)
 all_goals subst hP hB0
 all_goals try exact fin
def sp_s_l02Same (p:Pr):FSpec:=fsp (ac (aP aTs) (a1 (aP aTs))) (fun (a,b)=>TsN a) (fun (a,b)=>.b (qeTs a b))
theorem ok_s_l02Same:FOk Tryz.prog 76 (sp_s_l02Same std):=by
 refine FOk.go (c:=cx std [(78,sp_s_l00Same std)] [] 0) (cx_ok (.cons ok_s_l00Same .nil) .nil) mixed Tryz.func76 rfl rfl rfl (by kernel_rfl) ?_
 rintro ⟨a,b⟩ hp
 dsimp only at hp
 refine⟨rfl,?_⟩
 unfold sp_s_l00Same
 generalize hP:std=p,hB0:qeTs=B0,hB1:qeN=B1
 cbv
 repeat' first
  | (refine fun (_:Unit)=>?_;cbv)
  | (refine aI2 (fun h=>?_) (fun h=>?_)<;>cbv)
  | (refine aI2 ?_ ?_)
  | (refine Or.inl (fun (_:Unit)=>?_);cbv)
 all_goals subst hP hB0 hB1
 all_goals try exact fin
 all_goals (try simp only [sd_eqI,sd_eqS,sd_eqB,eta_ts,eta_bd,eta_pl,eta_la,eta_su] at *)
 all_goals first
  | exact hp.v
  | exact hp.c
  | (simp_all [qeTs];done)
def sp_s_SameGame (p:Pr):FSpec:=fsp (ac (aA aGm) (a1 (aA aGm))) (fun (a,b)=>GmN a∧a=b) (fun (a,b)=>.b true)
theorem ok_s_SameGame:FOk Tryz.prog 13 (sp_s_SameGame std):=by
 refine FOk.go (c:=cx std [(76,sp_s_l02Same std),(77,sp_s_l05Same std),(78,sp_s_l00Same std)] [] 0) (cx_ok (.cons ok_s_l02Same (.cons ok_s_l05Same (.cons ok_s_l00Same .nil))) .nil) mixed Tryz.func13 rfl rfl rfl (by kernel_rfl) ?_
 rintro ⟨a,b⟩ hp
 dsimp only at hp
 refine⟨rfl,?_⟩
 unfold sp_s_l02Same sp_s_l05Same sp_s_l00Same
 generalize hP:std=p,hB0:qeTs=B0,hB1:qeW=B1,hB2:qeN=B2
 cbv
 repeat' first
  | (refine fun (_:Unit)=>?_;cbv)
  | (refine aI2 (fun h=>?_) (fun h=>?_)<;>cbv)
  | (refine aI2 ?_ ?_)
  | (refine Or.inl (fun (_:Unit)=>?_);cbv)
 all_goals subst hP hB0 hB1 hB2
 all_goals try exact fin
 all_goals obtain⟨hn,rfl⟩:=hp
 all_goals try simp only [qeTs_r,qeW_r,qeN_r,eta_ts,eta_bd,eta_la,eta_pl] at *
 all_goals try (rename (_=!true)=>hh;cases hh)
 all_goals try (rename (true=false)=>hh;cases hh)
 all_goals try (rename (_=false)=>hh;simp at hh;done)
 ·exact hn.su.ts
 ·exact hn.su.l
 ·exact hn.r
 ·exact hn.s
 ·exact hn.k
def rNC:NRes (List Int×Int):=⟨fun _ l=>match l with
 | [.rsl [.i .i64] L,.i .i64 c]=>some (L,c)
 | [.esl,.i .i64 c]=>some ([],c)
 | _=>none,fun _=>[],fun x=>.tup [.rsl [.i .i64] x.1,.i .i64 x.2]⟩
def fcN (g:Gm):List Int×Int:=if gameB g then (if g.over then ([],10) else (chgs g,0)) else ([],1)
theorem fc_i {g:Gm} (h:gameB g=false):fcN g=([],1):=by unfold fcN;rw [h];rfl
theorem fc_o {g:Gm} (h:gameB g=true) (k:g.over=true):fcN g=([],10):=by unfold fcN;rw [h,k];rfl
theorem fc_y {g:Gm} (h:gameB g=true) (k:g.over=false):fcN g=(chgs g,0):=by unfold fcN;rw [h,k];rfl
theorem gv_end {g:Gm} (h:gameB g=true):EndP g:=by
 have hv:=gv_of h
 have h0:=hv.s0;have h1:=hv.s1
 unfold sideB at h0 h1
 simp only [Bool.and_eq_true] at h0 h1
 obtain⟨a,b,hr⟩:=two_l hv.rl
 obtain⟨x,y,hk⟩:=two_l hv.kl
 have q0:=in_bd h0.2.2;have q1:=in_bd h1.2.2
 have r0:=h0.1;have r1:=h1.1
 have hts:tsB g.ts=true:=by
  have hs:=hv.su
  unfold setupB at hs
  rw [Bool.and_eq_true] at hs
  exact hs.1
 refine⟨tsB_ok hts,hv.rl,hv.kl,fun k=>?_,fun k=>?_⟩
 ·unfold Gm.rk
  rw [hr] at r0 r1 ⊢
  rcases hk':k.toNat with _ | _ | n
  ·exact rack_len r0
  ·exact rack_len r1
  ·exact Nat.zero_le _
 ·unfold Gm.clk
  rw [hk] at q0 q1 ⊢
  rcases hk':k.toNat with _ | _ | n
  ·exact q0.1
  ·exact q1.1
  ·show (-36000:Int)≤0;decide
def sp_i_FinalChange_b (_:Pr):NSpec:=nsp (mN (a1 (aA aGm))) (fun g=>GmQ g) (fun g=>rNC) (fun g x=>x=fcN g)
theorem ok_i_FinalChange_b:NOk Tryz.prog 25 (sp_i_FinalChange_b std):=by
 refine NOk.go (c:=cxN std [(16,sp_i_ValidGame std),(94,sp_i_Game_finalChange std)] [] [] 0 (if false then some stdU else none) []) (cxN_ok (.cons ok_i_ValidGame (.cons ok_i_Game_finalChange .nil)) .nil .nil) mixed Tryz.func25 rfl rfl (by kernel_rfl) ?_
 rintro g hp
 refine⟨rfl,?_⟩
 unfold sp_i_ValidGame sp_i_Game_finalChange
 generalize hP:std=p,hB0:fcN=B0,hB1:gameB=B1,hB2:chgs=B2
 cbv
 repeat' first
  | (refine fun (_:Unit)=>?_;cbv)
  | (refine aI2 (fun h=>?_) (fun h=>?_)<;>cbv)
  | (refine aI2 ?_ ?_)
  | (refine Or.inl (fun (_:Unit)=>?_);cbv)
 all_goals subst hP hB0 hB1 hB2
 all_goals try exact fin
 ·exact (fc_i (g:=g) ‹_›).symm
 ·exact (fc_o (g:=g) ‹_› ‹_›).symm
 ·exact gv_end (g:=g) ‹_›
 ·exact (fc_y (g:=g) ‹_› ‹_›).symm
def sp_i_FinalChange (p:Pr):FSpec:=fsp (a1 (aA aGm)) (fun g=>GmQ g) (fun g=>(rNC).v (fcN g))
theorem ok_i_FinalChange:FOk Tryz.prog 25 (sp_i_FinalChange std):=FOk.ofN ok_i_FinalChange_b (fun g=>rfl) (fun _=>rfl)
end Ax
end Go.Proofs.YtjjonmhpgkahoaaGreatDoor
