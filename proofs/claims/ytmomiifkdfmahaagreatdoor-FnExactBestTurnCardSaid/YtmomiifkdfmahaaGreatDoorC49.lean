/-
  Records, of the impl package: the best turn; The laws package: the law of BestTurn.
  Conditions: as each part below says.
-/
import Derived.Test.YtmomiifkdfmahaaGreatDoorC46
set_option linter.unusedSimpArgs false
set_option linter.unusedVariables false
namespace Go.Proofs.YtmomiifkdfmahaaGreatDoor
namespace Ax
set_option maxRecDepth 100000
set_option maxHeartbeats 20000000
theorem bsN_max (P:List Int) : ∀(n j:Nat),j≤n→P.getD j 0≤P.getD (bsN P n).toNat 0
 | 0,j,h=>by
   obtain rfl:j=0:=by omega
   exact Int.le_refl _
 | n+1,j,h=>by
   rw [bsN]
   by_cases hj:j=n+1
   ·subst hj
    split
    ·rw [Int.toNat_natCast];exact Int.le_refl _
    ·omega
   ·have:=bsN_max P n j (by omega)
    split
    ·rw [Int.toNat_natCast];omega
    ·exact this
theorem bsN_fst (P:List Int) : ∀(n j:Nat),(j:Int)<bsN P n→P.getD j 0<P.getD (bsN P n).toNat 0
 | 0,j,h=>by
   have h:(j:Int)<0:=h
   omega
 | n+1,j,h=>by
   rw [bsN] at h ⊢
   split at h
   ·rename_i h1
    rw [if_pos h1,Int.toNat_natCast]
    have:=bsN_max P n j (by omega)
    omega
   ·rename_i h1
    rw [if_neg h1]
    exact bsN_fst P n j h
def mxN (P:List Int):Int:=P.getD (bsN P (P.length-1)).toNat 0
def ixG:List Int→Int→Int→Int
 | [],_,_=> -1
 | x::l,v,k=>if v=x then k else ixG l v (k+1)
def ixN (l:List Int) (v:Int):Int:=ixG l v 0
theorem ixG_fst (v:Int) : ∀(l:List Int) (b:Nat) (k:Int),b<l.length→l.getD b 0=v→(∀j,j<b→l.getD j 0≠v)→ixG l v k=k+b
 | [],b,_,h,_,_=>absurd h (Nat.not_lt_zero _)
 | x::l,0,k,_,h,_=>by
   have h:x=v:=h
   rw [ixG,if_pos h.symm];simp
 | x::l,b+1,k,h,h1,h2=>by
   have h3:x≠v:=h2 0 (Nat.succ_pos _)
   rw [ixG,if_neg (fun e=>h3 e.symm),ixG_fst v l b (k+1) (Nat.lt_of_succ_lt_succ h) h1 (fun j hj=>h2 (j+1) (Nat.succ_lt_succ hj))]
   omega
theorem ix_mx {P:List Int} (h:P≠[]):ixN P (mxN P)=bsN P (P.length-1):=by
 have h1:=bsN_bd P (P.length-1)
 have h2:0<P.length:=List.length_pos_iff.2 h
 have h3:=ixG_fst (mxN P) P (bsN P (P.length-1)).toNat 0 (by omega) rfl (fun j hj e=>by
  have:=bsN_fst P (P.length-1) j (by omega)
  unfold mxN at e
  omega)
 unfold ixN
 rw [h3];omega
theorem ix_step {l:List Int} {v k:Int} (h0:0≤k) (h:k<l.length):ixG (l.drop k.toNat) v k=if v=l.getD k.toNat 0 then k else ixG (l.drop (k+1).toNat) v (k+1):=by
 rw [dc h0 h 0,ixG]
structure MxP (l:List Int):Prop where
 p:l≠[]
 n:(l.length:Int)≤1048576
theorem MxP.pos {l:List Int} (h:MxP l):0<(l.length:Int):=by
 have:=List.length_pos_iff.2 h.p
 omega
theorem mx1 {l:List Int} (h:MxP l) (h2:std.ltI (std.len l) 1=true):False:=by
 have h3:(l.length:Int)<1:=lt_of h2
 have:=h.pos
 omega
theorem mx_step {l:List Int} {j m:Int} (h1:1≤j) (hlt:j<l.length) (e:m=l.getD (bsN l (j-1).toNat).toNat 0):(if m≤l.getD j.toNat 0 then l.getD j.toNat 0 else m)=l.getD (bsN l (j+1-1).toNat).toNat 0:=by
 obtain⟨n,rfl⟩ : ∃n:Nat,j=(n:Int)+1:=⟨(j-1).toNat,by omega⟩
 rw [show ((n:Int)+1-1).toNat =n by omega] at e
 rw [show ((n:Int)+1+1-1).toNat =n+1 by omega,bsN,←e]
 rw [show ((n:Int)+1).toNat =n+1 by omega]
 by_cases h2:m<l.getD (n+1) 0
 ·rw [if_pos (Int.le_of_lt h2),if_pos h2,Int.toNat_natCast]
 ·rw [if_neg h2,←e]
  split<;>omega
def sp_f_slices_Max___int64_int64_ (p:Pr):FSpec:=fsp (a1 aN) (fun l=>MxP l) (fun l=>.i .i64 (mxN l))
theorem ok_f_slices_Max___int64_int64_:FOk Tryz.prog 31 (sp_f_slices_Max___int64_int64_ std):=by
 refine FOk.go (c:=cx std [] [] 0) (cx_ok .nil .nil) mixed Tryz.func31 rfl rfl rfl (by kernel_rfl) ?_
 rintro l hp
 refine⟨rfl,?_⟩
 obtain⟨H,hH⟩ : ∃H:Hd (Int×Int),H=⟨fun (m,j)=>1≤j∧j≤l.length∧m=l.getD (bsN l (j-1).toNat).toNat 0,fun (m,j)=>(l.length-j).toNat,(· < ·)⟩:=⟨_,rfl⟩
 have hl : ∀m n,H.lt m n→m<n:=by subst hH;exact fun _ _ h=>h
 generalize hP:std=p
 generalize hB0:mxN=B0
 cbv
 repeat' first
  | (refine fun (_:Unit)=>?_;cbv)
  | (refine Or.inr ⟨12,[],[.s 3 (.i .i64),.s 4 (.i .i64)],[],[],H,rfl,hl,?_,fun ((m,j):Int×Int) hk=>?_⟩<;>cbv)
  | (refine And.intro (fun h=>?_) (fun h=>?_)<;>cbv)
  | (refine And.intro ?_ ?_)
 all_goals subst hP hB0 hH
 all_goals clear hl
 all_goals try dsimp only at hk
 all_goals try dsimp only
 all_goals try (exfalso;exact mx1 hp (by assumption))
 all_goals try exact fin
 ·exact⟨Int.le_refl 1,by show (1:Int)≤(l.length:Int);have:=hp.pos;omega,rfl⟩
 all_goals obtain⟨q0,q1,q2⟩:=hk
 all_goals have hn:=hp.n
 all_goals try (have hlt:j<(l.length:Int):=lt_of (by assumption))
 ·exact in64 (by show _≤j+1∧j+1≤_;omega)
 ·exact⟨by show 1≤j+1;omega,by show j+1≤(l.length:Int);omega,mx_step q0 hlt q2⟩
 ·have hge:(l.length:Int)≤j:=ge_of h
  have q1':j≤(l.length:Int):=q1
  have hps:=hp.pos
  rw [q2,show (j-1).toNat =l.length-1 by omega];rfl
def sp_f_slices_Index___int64_int64_ (p:Pr):FSpec:=fsp (ac aN (a1 aI)) (fun (l,v)=>p.leP (p.len l) 1048576) (fun (l,v)=>.i .i64 (ixN l v))
theorem ok_f_slices_Index___int64_int64_:FOk Tryz.prog 32 (sp_f_slices_Index___int64_int64_ std):=by
 refine FOk.go (c:=cx std [] [] 0) (cx_ok .nil .nil) mixed Tryz.func32 rfl rfl rfl (by kernel_rfl) ?_
 rintro ⟨l,v⟩ hp
 dsimp only at hp
 refine⟨rfl,?_⟩
 obtain⟨H,hH⟩ : ∃H:Hd (Int),H=⟨fun k=>0≤k∧k≤l.length∧ixN l v=ixG (l.drop k.toNat) v k,fun k=>(l.length-k).toNat,(· < ·)⟩:=⟨_,rfl⟩
 have hl : ∀m n,H.lt m n→m<n:=by subst hH;exact fun _ _ h=>h
 generalize hP:std=p
 generalize hB0:ixN=B0
 cbv
 repeat' first
  | (refine fun (_:Unit)=>?_;cbv)
  | (refine Or.inr ⟨9,[],[.s 8 (.i .i64)],[],[],H,rfl,hl,?_,fun (k:Int) hk=>?_⟩<;>cbv)
  | (refine And.intro (fun h=>?_) (fun h=>?_)<;>cbv)
  | (refine And.intro ?_ ?_)
 all_goals subst hP hB0 hH
 all_goals clear hl
 all_goals try dsimp only at hk
 all_goals try dsimp only
 all_goals try exact fin
 ·exact⟨Int.le_refl 0,Int.natCast_nonneg _,rfl⟩
 all_goals obtain⟨q0,q1,q2⟩:=hk
 all_goals try (have hlt:k<(l.length:Int):=lt_of (by assumption))
 ·rw [q2,ix_step q0 hlt,if_pos (show v=l.getD k.toNat 0 from eqI_t h)]
 ·refine⟨by show 0≤k+1;omega,by show k+1≤(l.length:Int);omega,?_⟩
  rw [q2,ix_step q0 hlt,if_neg (show ¬v=l.getD k.toNat 0 from eqI_f h)];rfl
 ·rw [q2,dn (ge_of h)];rfl
structure RzP (u:Su) (r:Rcd):Prop where
 q:RyP u r
 z:ruC (bgG u r) r=0
structure RwP (u:Su) (r:Rcd):Prop where
 q:RyP u r
 z : ¬ruC (bgG u r) r=0
theorem rz1 {u:Su} {r:Rcd} (h:RzP u r) (h2:std.leI 0 (rpI (bgG u r) r)=true):False:=by
 have e:rpI (bgG u r) r= -1:=if_pos h.z
 rw [e] at h2;cases h2
theorem rw1 {u:Su} {r:Rcd} (h:RwP u r) (h2:std.leI 0 (rpI (bgG u r) r)=false):False:=by
 have e:rpI (bgG u r) r=((ruL (bgG u r) r).length : Int):=if_neg h.z
 rw [e] at h2
 have h3 : ¬(0:Int)≤((ruL (bgG u r) r).length : Int):=of_decide_eq_false h2
 omega
theorem rn2 {u:Su} {r:Rcd} (h:RnP u r) (h2:std.eqI (bgC u r) 0=true):False:=h.c (eqI_t h2)
theorem rw2 {u:Su} {r:Rcd} (h:RwP u r) (h2:std.eqI (ruC (bgG u r) r) 0=true):False:=h.z (eqI_t h2)
def sp_i_wholly_y (p:Pr):FSpec:=fsp (ac (aA aSu) (a1 (aA aRcd))) (fun (u,r)=>RzP u r) (fun (u,r)=>.tup [.agg (rpK (rpZ (bgG u r) r) (.rsl [.r [.i .i64]] (rpS (bgG u r) r)) (.rsl [.i .i64] (ruP (bgG u r) r)) (rpI (bgG u r) r) (ruC (bgG u r) r)),.i .i64 0])
theorem ok_i_wholly_y:FOk Tryz.prog 30 (sp_i_wholly_y std):=by
 refine FOk.go (c:=cx std [(25,sp_i_replayed_y std)] [] 0) (cx_ok (.cons ok_i_replayed_y .nil) .nil) mixed Tryz.func30 rfl rfl rfl (by kernel_rfl) ?_
 rintro ⟨u,r⟩ hp
 dsimp only at hp
 refine⟨rfl,?_⟩
 unfold sp_i_replayed_y
 generalize hP:std=p
 generalize hB0:bgG=B0
 generalize hB1:rpZ=B1
 generalize hB2:rpS=B2
 generalize hB3:ruP=B3
 generalize hB4:rpI=B4
 generalize hB5:ruC=B5
 cbv
 repeat' first
  | (refine fun (_:Unit)=>?_;cbv)
  | (refine And.intro (fun h=>?_) (fun h=>?_)<;>cbv)
  | (refine And.intro ?_ ?_)
  | (refine Or.inl (fun (_:Unit)=>?_);cbv)
 all_goals subst hP hB0 hB1 hB2 hB3 hB4 hB5
 all_goals try (exfalso;exact rz1 hp (by assumption))
 all_goals try exact fin
def sp_i_wholly_f (p:Pr):FSpec:=fsp (ac (aA aSu) (a1 (aA aRcd))) (fun (u,r)=>RwP u r) (fun (u,r)=>.tup [.agg rp0,.i .i64 (ruC (bgG u r) r)])
theorem ok_i_wholly_f:FOk Tryz.prog 30 (sp_i_wholly_f std):=by
 refine FOk.go (c:=cx std [(25,sp_i_replayed_y std)] [] 0) (cx_ok (.cons ok_i_replayed_y .nil) .nil) mixed Tryz.func30 rfl rfl rfl (by kernel_rfl) ?_
 rintro ⟨u,r⟩ hp
 dsimp only at hp
 refine⟨rfl,?_⟩
 unfold sp_i_replayed_y
 generalize hP:std=p
 generalize hB0:bgG=B0
 generalize hB1:rpZ=B1
 generalize hB2:rpS=B2
 generalize hB3:ruP=B3
 generalize hB4:rpI=B4
 generalize hB5:ruC=B5
 cbv
 repeat' first
  | (refine fun (_:Unit)=>?_;cbv)
  | (refine And.intro (fun h=>?_) (fun h=>?_)<;>cbv)
  | (refine And.intro ?_ ?_)
  | (refine Or.inl (fun (_:Unit)=>?_);cbv)
 all_goals subst hP hB0 hB1 hB2 hB3 hB4 hB5
 all_goals try (exfalso;exact rw1 hp (by assumption))
 all_goals try exact fin
def sp_i_wholly_n (p:Pr):FSpec:=fsp (ac (aA aSu) (a1 (aA aRcd))) (fun (u,r)=>RnP u r) (fun (u,r)=>.tup [.agg rp0,.i .i64 (bgC u r)])
theorem ok_i_wholly_n:FOk Tryz.prog 30 (sp_i_wholly_n std):=by
 refine FOk.go (c:=cx std [(25,sp_i_replayed_n std)] [] 0) (cx_ok (.cons ok_i_replayed_n .nil) .nil) mixed Tryz.func30 rfl rfl rfl (by kernel_rfl) ?_
 rintro ⟨u,r⟩ hp
 dsimp only at hp
 refine⟨rfl,?_⟩
 unfold sp_i_replayed_n
 generalize hP:std=p
 generalize hB0:bgC=B0
 cbv
 repeat' first
  | (refine fun (_:Unit)=>?_;cbv)
  | (refine And.intro (fun h=>?_) (fun h=>?_)<;>cbv)
  | (refine And.intro ?_ ?_)
  | (refine Or.inl (fun (_:Unit)=>?_);cbv)
 all_goals subst hP hB0
 all_goals try (exfalso;exact rn2 hp (by assumption))
 all_goals try exact fin
def sp_i_BestTurn_y (p:Pr):FSpec:=fsp (ac (aA aSu) (a1 (aA aRcd))) (fun (u,r)=>RzP u r) (fun (u,r)=>.tup [.i .i64 (btI u r),.i .i64 (btS u r),.i .i64 (btC u r)])
theorem ok_i_BestTurn_y:FOk Tryz.prog 14 (sp_i_BestTurn_y std):=by
 refine FOk.go (c:=cx std [(30,sp_i_wholly_y std),(31,sp_f_slices_Max___int64_int64_ std),(32,sp_f_slices_Index___int64_int64_ std)] [] 0) (cx_ok (.cons ok_i_wholly_y (.cons ok_f_slices_Max___int64_int64_ (.cons ok_f_slices_Index___int64_int64_ .nil))) .nil) mixed Tryz.func14 rfl rfl rfl (by kernel_rfl) ?_
 rintro ⟨u,r⟩ hp
 dsimp only at hp
 refine⟨rfl,?_⟩
 unfold sp_i_wholly_y sp_f_slices_Max___int64_int64_ sp_f_slices_Index___int64_int64_
 generalize hP:std=p
 generalize hB0:bgG=B0
 generalize hB1:rpZ=B1
 generalize hB2:rpS=B2
 generalize hB3:ruP=B3
 generalize hB4:rpI=B4
 generalize hB5:ruC=B5
 generalize hB6:btI=B6
 generalize hB7:btS=B7
 generalize hB8:btC=B8
 generalize hB9:mxN=B9
 generalize hB10:ixN=B10
 cbv
 repeat' first
  | (refine fun (_:Unit)=>?_;cbv)
  | (refine And.intro (fun h=>?_) (fun h=>?_)<;>cbv)
  | (refine And.intro ?_ ?_)
  | (refine Or.inl (fun (_:Unit)=>?_);cbv)
 all_goals subst hP hB0 hB1 hB2 hB3 hB4 hB5 hB6 hB7 hB8 hB9 hB10
 all_goals try exact fin
 all_goals (try simp only [eta_ts,eta_bd,eta_suw,eta_rcd] at *)
 all_goals have hc:=hp.q.c
 all_goals have hr:ruC (bgR u r) r=0:=(by rw [bg_eq hc];exact hp.z)
 all_goals have hn:=ruP_n (g:=bgG u r) hp.q.q.rc
 ·exact (bt_3 hc hr (by rw [bg_eq hc];exact eqI_t h)).2.1.symm
 ·exact (bt_3 hc hr (by rw [bg_eq hc];exact eqI_t h)).2.2.symm
 ·exact (bt_3 hc hr (by rw [bg_eq hc];exact eqI_t h)).1.symm
 all_goals have hne:ruP (bgG u r) r≠[]:=fun e=>eqI_f h (by rw [e];rfl)
 all_goals have e:=bt_0 hc hr (by rw [bg_eq hc];exact eqI_f h)
 all_goals rw [bg_eq hc] at e
 ·exact⟨hne,hn⟩
 ·exact hn
 ·rw [ix_mx hne,e.2.1]
 ·show (ruP (bgG u r) r).getD (bsN (ruP (bgG u r) r) ((ruP (bgG u r) r).length - 1)).toNat 0=btS u r
  rw [e.2.2,e.2.1]
 ·exact e.1.symm
def sp_i_BestTurn_f (p:Pr):FSpec:=fsp (ac (aA aSu) (a1 (aA aRcd))) (fun (u,r)=>RwP u r) (fun (u,r)=>.tup [.i .i64 0,.i .i64 0,.i .i64 (ruC (bgG u r) r)])
theorem ok_i_BestTurn_f:FOk Tryz.prog 14 (sp_i_BestTurn_f std):=by
 refine FOk.go (c:=cx std [(30,sp_i_wholly_f std),(31,sp_f_slices_Max___int64_int64_ std),(32,sp_f_slices_Index___int64_int64_ std)] [] 0) (cx_ok (.cons ok_i_wholly_f (.cons ok_f_slices_Max___int64_int64_ (.cons ok_f_slices_Index___int64_int64_ .nil))) .nil) mixed Tryz.func14 rfl rfl rfl (by kernel_rfl) ?_
 rintro ⟨u,r⟩ hp
 dsimp only at hp
 refine⟨rfl,?_⟩
 unfold sp_i_wholly_f sp_f_slices_Max___int64_int64_ sp_f_slices_Index___int64_int64_
 generalize hP:std=p
 generalize hB0:bgG=B0
 generalize hB1:ruC=B1
 generalize hB2:mxN=B2
 generalize hB3:ixN=B3
 cbv
 repeat' first
  | (refine fun (_:Unit)=>?_;cbv)
  | (refine And.intro (fun h=>?_) (fun h=>?_)<;>cbv)
  | (refine And.intro ?_ ?_)
  | (refine Or.inl (fun (_:Unit)=>?_);cbv)
 all_goals subst hP hB0 hB1 hB2 hB3
 all_goals try (exfalso;exact rw2 hp (by assumption))
 all_goals try exact fin
def sp_i_BestTurn_n (p:Pr):FSpec:=fsp (ac (aA aSu) (a1 (aA aRcd))) (fun (u,r)=>RnP u r) (fun (u,r)=>.tup [.i .i64 0,.i .i64 0,.i .i64 (bgC u r)])
theorem ok_i_BestTurn_n:FOk Tryz.prog 14 (sp_i_BestTurn_n std):=by
 refine FOk.go (c:=cx std [(30,sp_i_wholly_n std),(31,sp_f_slices_Max___int64_int64_ std),(32,sp_f_slices_Index___int64_int64_ std)] [] 0) (cx_ok (.cons ok_i_wholly_n (.cons ok_f_slices_Max___int64_int64_ (.cons ok_f_slices_Index___int64_int64_ .nil))) .nil) mixed Tryz.func14 rfl rfl rfl (by kernel_rfl) ?_
 rintro ⟨u,r⟩ hp
 dsimp only at hp
 refine⟨rfl,?_⟩
 unfold sp_i_wholly_n sp_f_slices_Max___int64_int64_ sp_f_slices_Index___int64_int64_
 generalize hP:std=p
 generalize hB0:bgC=B0
 generalize hB1:mxN=B1
 generalize hB2:ixN=B2
 cbv
 repeat' first
  | (refine fun (_:Unit)=>?_;cbv)
  | (refine And.intro (fun h=>?_) (fun h=>?_)<;>cbv)
  | (refine And.intro ?_ ?_)
  | (refine Or.inl (fun (_:Unit)=>?_);cbv)
 all_goals subst hP hB0 hB1 hB2
 all_goals try (exfalso;exact rn2 hp (by assumption))
 all_goals try exact fin
structure RqP (u:Su) (r:Rcd):Prop where
 q:RpL u r
 c:bgC u r=0→¬ruC (bgG u r) r=0
def spBtQ (p:Pr):FSpec:=fsp (ac (aA aSu) (a1 (aA aRcd))) (fun (u,r)=>RqP u r) (fun (u,r)=>.tup [.i .i64 (btI u r),.i .i64 (btS u r),.i .i64 (btC u r)])
theorem okBtQ:FOk Tryz.prog 14 (spBtQ std):=FOk.casesE ok_i_BestTurn_f ok_i_BestTurn_n fun ⟨u,r⟩ hp=>by
 by_cases hc:bgC u r=0
 ·refine .inl ⟨⟨⟨hp.q,hc⟩,hp.c hc⟩,?_,rfl⟩
  have e:=bt_r hc (by rw [bg_eq hc];exact hp.c hc)
  show PV.tup [.i .i64 0,.i .i64 0,.i .i64 (ruC (bgG u r) r)]=PV.tup [.i .i64 (btI u r),.i .i64 (btS u r),.i .i64 (btC u r)]
  rw [e.1,e.2.1,e.2.2,bg_eq hc]
 ·refine .inr ⟨⟨hp.q,hc⟩,?_,rfl⟩
  have e:=bt_n hc
  show PV.tup [.i .i64 0,.i .i64 0,.i .i64 (bgC u r)]=PV.tup [.i .i64 (btI u r),.i .i64 (btS u r),.i .i64 (btC u r)]
  rw [e.1,e.2.1,e.2.2]
def sp_i_BestTurn (p:Pr):FSpec:=fsp (ac (aA aSu) (a1 (aA aRcd))) (fun (u,r)=>RpL u r) (fun (u,r)=>.tup [.i .i64 (btI u r),.i .i64 (btS u r),.i .i64 (btC u r)])
theorem ok_i_BestTurn:FOk Tryz.prog 14 (sp_i_BestTurn std):=FOk.casesE ok_i_BestTurn_y okBtQ fun ⟨u,r⟩ hp=>by
 by_cases hc:bgC u r=0∧ruC (bgG u r) r=0
 ·exact .inl ⟨⟨⟨hp,hc.1⟩,hc.2⟩,rfl,rfl⟩
 ·exact .inr ⟨⟨hp,fun h h2=>hc ⟨h,h2⟩⟩,rfl,rfl⟩
end Ax
end Go.Proofs.YtmomiifkdfmahaaGreatDoor
namespace Go.Proofs.YtmomiifkdfmahaaGreatDoor
namespace Ax
set_option maxRecDepth 100000
set_option maxHeartbeats 20000000
def sp_l_FnExactBestTurn (p:Pr):FSpec:=fsp (ac (aA aSu) (a1 (aA aRcd))) (fun (u,r)=>LawR u r) (fun (u,r)=>.bt)
theorem ok_l_FnExactBestTurn:FOk Tryz.prog 4 (sp_l_FnExactBestTurn std):=by
 refine FOk.go (c:=cx std [(5,sp_l_szSetup std),(6,sp_l_szRecord std),(8,sp_l_toSetup std),(9,sp_l_toRecord std),(13,sp_s_BestTurn std),(14,sp_i_BestTurn std),(11,sp_l_eqSetup std),(12,sp_l_eqRecord std)] [] 0) (cx_ok (.cons ok_l_szSetup (.cons ok_l_szRecord (.cons ok_l_toSetup (.cons ok_l_toRecord (.cons ok_s_BestTurn (.cons ok_i_BestTurn (.cons ok_l_eqSetup (.cons ok_l_eqRecord .nil)))))))) .nil) mixed Tryz.func4 rfl rfl rfl (by kernel_rfl) ?_
 rintro ⟨u,r⟩ hp
 dsimp only at hp
 refine⟨rfl,?_⟩
 unfold sp_l_szSetup sp_l_szRecord sp_l_toSetup sp_l_toRecord sp_s_BestTurn sp_i_BestTurn sp_l_eqSetup sp_l_eqRecord
 generalize hP:std=p
 generalize hB0:szU=B0
 generalize hB1:szR=B1
 generalize hB2:btI=B2
 generalize hB3:btS=B3
 generalize hB4:btC=B4
 generalize hB5:qeSu=B5
 cbv
 repeat' first
  | (refine fun (_:Unit)=>?_;cbv)
  | (refine And.intro (fun h=>?_) (fun h=>?_)<;>cbv)
  | (refine And.intro ?_ ?_)
  | (refine Or.inl (fun (_:Unit)=>?_);cbv)
 all_goals subst hP hB0 hB1 hB2 hB3 hB4 hB5
 all_goals try exact fin
 all_goals (try simp only [eta_ts,eta_bd,eta_suw,eta_rcd] at *)
 ·exact⟨by decide,by decide⟩
 ·have h0:0≤szU 1048576 u:=ge_of h
  exact⟨h0,(zU h0 (by decide)).2.1⟩
 all_goals have h0:0≤szU 1048576 u:=ge_of (by with_reducible assumption)
 all_goals have h1:0≤szR (szU 1048576 u) r:=ge_of (by with_reducible assumption)
 all_goals have hU:=(zU h0 (by decide)).2.2
 all_goals have hR:=zR h1 (zU h0 (by decide)).2.1
 all_goals have hn:=hR.n
 all_goals first
  | exact hU.n
  | exact⟨hU,hR⟩
  | exact Int.le_trans hn (by decide)
  | (rw [qeSu_r] at h;cases h)
end Ax
end Go.Proofs.YtmomiifkdfmahaaGreatDoor
