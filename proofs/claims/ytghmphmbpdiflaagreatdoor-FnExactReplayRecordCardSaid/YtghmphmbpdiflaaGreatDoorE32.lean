/-
  Counts of tiles, piles, values of letters of the impl package; Sequences of letters, words that a play forms, whether it touches the board, its code, of the impl package; Crossings, words that a play forms, wrong words, whether it touches the board, its code, of the impl package.
  Conditions: none.
-/
import Derived.Test.YtghmphmbpdiflaaGreatDoorE30
import Derived.Test.YtghmphmbpdiflaaGreatDoorE31
set_option linter.unusedSimpArgs false
set_option linter.unusedVariables false
namespace Go.Proofs.YtghmphmbpdiflaaGreatDoor
namespace Ax
open Go.RowKit
set_option maxRecDepth 100000
set_option maxHeartbeats 2000000
def aCt:Arg (List Int):=⟨fun | .arr (.i .i64) n L=>if Nat.beq n 27 then some L else none | _=>none,fun L=>.arr (.i .i64) 27 L,fun x a h=>by
 split at h
 ·split at h
  ·rename_i hn
   cases h
   rw [Nat.eq_of_beq_eq_true hn]
  ·cases h
 ·cases h⟩
structure CtP (c:List Int) (m:Int):Prop where
 len:c.length=27
 lo : ∀j,0≤c.getD j 0
 hi : ∀j,c.getD j 0≤m
theorem pileTo_bd {c:List Int} {m:Nat} (h : ∀j,c.getD j 0≤m) : ∀k,(pileTo c k).length ≤k*m
 | 0=>by simp [pileTo]
 | k+1=>by
   rw [pileTo_succ,List.length_append,List.length_replicate,Nat.succ_mul]
   have h1:=pileTo_bd h k
   have h2:=h k
   omega
def sp_pile (p:Pr):FSpec:=fsp (a1 aCt) (fun c=>CtP c 1000000000) (fun c=>.s (pileL c))
theorem ok_pile:FOk Tryz.prog 137 (sp_pile std):=by
 refine FOk.of_calls Tryz.func137 rfl rfl fun c hp w e vals hz hl=>?_
 obtain⟨u,hv,h1⟩:=Rs1 hl
 rw [arr_of hv]
 have h1:u=.agg (cntA c):=by unfold R at h1;exact h1.2.2
 subst h1
 have hp:CtP c 1000000000:=hp
 refine (pile_any c w hp.len hp.lo ?_).mono ?_
 ·have h2:=pileTo_bd (m:=1000000000) hp.hi 27
  unfold pileL;omega
 ·rintro en w' ⟨rfl,hb⟩
  exact⟨_,rfl,fun w e=>by unfold R;rfl,hb⟩
theorem plc_K {c:UInt8} (h:tileB c=true):plcI (c.toNat:Int)=(tileK c:Int)∧tileK c<27:=by
 have h1:=tileK_lt' h
 refine⟨?_,h1⟩
 rcases (tileB_iff c).1 h with rfl | ⟨h2,h3⟩
 ·rfl
 ·rw [tileK_small h2]
  unfold plcI inR
  rw [if_neg (by omega),decide_eq_true (by omega),decide_eq_true (by omega),if_pos (by rfl)]
  omega
theorem cl_suc {s:List UInt8} {k:Int} (h0:0≤k) (h:k<s.length):countsL (s.take (k+1).toNat)=incAt (countsL (s.take k.toNat)) (tileK (s.getD k.toNat 0)):=by
 rw [tk h0 h 0]
 simp [countsL]
theorem incAt_len (c:List Int) (k:Nat):(incAt c k).length =c.length:=by simp [incAt]
theorem incAt_get (c:List Int) (k j:Nat):(incAt c k).getD j 0≤c.getD j 0+1∧c.getD j 0≤(incAt c k).getD j 0:=by
 unfold incAt
 rw [List.getD_eq_getElem?_getD,List.getElem?_set]
 split
 ·rename_i hk
  subst hk
  split
  ·rw [Option.getD_some];omega
  ·rename_i hl;simp [List.getD_eq_getElem?_getD,List.getElem?_eq_none (Nat.le_of_not_lt hl)]
 ·rw [←List.getD_eq_getElem?_getD];omega
theorem fold_ct (s:List UInt8) : ∀(c:List Int) (m:Int),CtP c m→CtP (s.foldl (fun c x=>incAt c (tileK x)) c) (m+s.length):=by
 induction s with
 | nil=>intro c m h;simpa using h
 | cons x r ih=>
   intro c m h
   have:=ih (incAt c (tileK x)) (m+1) ⟨by rw [incAt_len,h.len],fun j=>by have:=incAt_get c (tileK x) j;have:=h.lo j;omega,fun j=>by have:=incAt_get c (tileK x) j;have:=h.hi j;omega⟩
   rw [List.foldl_cons,List.length_cons]
   exact⟨this.len,this.lo,fun j=>by have:=this.hi j;omega⟩
theorem zero_ct:CtP zeroC 0:=by
 have h : ∀j,zeroC.getD j 0=0:=fun j=>by
  unfold zeroC
  rw [List.getD_eq_getElem?_getD,List.getElem?_replicate]
  split<;>rfl
 exact⟨rfl,fun j=>by rw [h];omega,fun j=>by rw [h];omega⟩
theorem counts_ct (s:List UInt8):CtP (countsL s) s.length:=by
 have:=fold_ct s zeroC 0 zero_ct
 rw [Int.zero_add] at this
 exact this
theorem CtP.mono {c:List Int} {m n:Int} (h:CtP c m) (hmn:m≤n):CtP c n:=⟨h.len,h.lo,fun j=>Int.le_trans (h.hi j) hmn⟩
theorem tile_at {s:List UInt8} {k:Int} (h:s.all tileB=true) (h0:0≤k) (h1:k<s.length):tileB (s.getD k.toNat 0)=true:=by
 rw [List.getD_eq_getElem?_getD,List.getElem?_eq_getElem (by omega)]
 exact List.all_eq_true.1 h _ (List.getElem_mem (by omega))
structure StP (s:List UInt8):Prop where
 ti:s.all tileB=true
 len:s.length≤1000000
def sp_i_countsOf (p:Pr):FSpec:=fsp (a1 aS) (fun s=>StP s) (fun s=>.arr (.i .i64) 27 (countsL s))
theorem ok_i_countsOf:FOk Tryz.prog 136 (sp_i_countsOf std):=by
 refine FOk.go (c:=cx std [(162,sp_i_place std)] [] 0) (cx_ok (.cons ok_i_place .nil) .nil) mixed Tryz.func136 rfl rfl rfl (by kernel_rfl) ?_
 rintro s hp
 refine⟨rfl,?_⟩
 unfold sp_i_place
 obtain⟨H,hH⟩ : ∃H:Hd (Int×List Int),H=⟨fun (k,L)=>0≤k∧k≤s.length∧L=countsL (s.take k.toNat),fun (k,L)=>(s.length-k).toNat,(· < ·)⟩:=⟨_,rfl⟩
 have hl : ∀m n,H.lt m n→m<n:=by subst hH;exact fun _ _ h=>h
 generalize hP:std=p,hB0:countsL=B0,hB1:plcI=B1
 cbv
 repeat' first
  | (refine fun (_:Unit)=>?_;cbv)
  | (refine Or.inr ⟨5,[],[.s 4 (.i .i64),.o 1 [.i .i64]],[],[],H,rfl,hl,?_,fun ((k,L):Int×List Int) hk=>?_⟩<;>cbv)
  | (refine aI2 (fun h=>?_) (fun h=>?_)<;>cbv)
  | (refine aI2 ?_ ?_)
 all_goals subst hP hB0 hB1 hH
 all_goals clear hl
 all_goals try dsimp only at hk
 all_goals try dsimp only
 all_goals try exact fin
 ·exact⟨Int.le_refl 0,Int.natCast_nonneg _,rfl⟩
 all_goals obtain⟨q0,q1,rfl⟩:=hk
 all_goals have q1:k≤(s.length:Int):=q1
 all_goals have hl:=hp.len
 all_goals have hC:=counts_ct (s.take k.toNat)
 all_goals have hC2:((s.take k.toNat).length : Int)≤s.length:=by rw [List.length_take];omega
 all_goals try (have hlt:k<(s.length:Int):=lt_of ‹_›)
 all_goals try (have hT:=tile_at hp.ti q0 hlt;obtain⟨hK,hK2⟩:=plc_K hT;have hK:plcI (std.byte s k)=(tileK (s.getD k.toNat 0):Int):=hK)
 ·show 0≤plcI (std.byte s k)∧plcI (std.byte s k)<27
  omega
 ·show 0≤plcI (std.byte s k)∧plcI (std.byte s k)<27
  omega
 ·have h1:=hC.lo (plcI (std.byte s k)).toNat
  have h2:=hC.hi (plcI (std.byte s k)).toNat
  exact in64 (by show _≤(countsL (s.take k.toNat)).getD (plcI (std.byte s k)).toNat 0+1∧(countsL (s.take k.toNat)).getD (plcI (std.byte s k)).toNat 0+1≤_;omega)
 ·show 0≤plcI (std.byte s k)∧plcI (std.byte s k)<27
  omega
 ·show 0≤plcI (std.byte s k)∧plcI (std.byte s k)<27
  omega
 ·exact in64 (by show _≤k+1∧k+1≤_;omega)
 ·refine⟨by show 0≤k+1;omega,by show k+1≤(s.length:Int);omega,?_⟩
  show (countsL (s.take k.toNat)).set (plcI (std.byte s k)).toNat ((countsL (s.take k.toNat)).getD (plcI (std.byte s k)).toNat 0+1)=_
  rw [hK,Int.toNat_natCast]
  exact (cl_suc q0 hlt).symm
 ·rw [tk_all (ge_of ‹_›)]
section
variable {c d:List Int}
theorem sub_get {k j:Nat} (hj:j<27):(subTo c d k).getD j 0=if j<k then c.getD j 0-d.getD j 0 else c.getD j 0:=by
 unfold subTo
 rw [List.getD_eq_getElem?_getD,List.getElem?_map,List.getElem?_range hj]
 rfl
theorem sub_len (k:Nat):(subTo c d k).length =27:=by simp [subTo]
theorem sub_zero (h:c.length=27):subTo c d 0=c:=by
 refine List.ext_getElem (by rw [sub_len,h]) fun j h1 h2=>?_
 have:=sub_get (c:=c) (d:=d) (k:=0) (j:=j) (by omega)
 rw [if_neg (by omega),List.getD_eq_getElem?_getD,List.getElem?_eq_getElem h1,List.getD_eq_getElem?_getD,List.getElem?_eq_getElem h2] at this
 simpa using this
theorem sub_suc {k:Nat} (hk:k<27):(subTo c d k).set k (c.getD k 0-d.getD k 0)=subTo c d (k+1):=by
 refine List.ext_getElem (by simp [sub_len]) fun j h1 h2=>?_
 rw [sub_len] at h2
 have e1:=sub_get (c:=c) (d:=d) (k:=k) (j:=j) h2
 have e2:=sub_get (c:=c) (d:=d) (k:=k+1) (j:=j) h2
 rw [List.getD_eq_getElem?_getD,List.getElem?_eq_getElem (by rw [sub_len];exact h2),Option.getD_some] at e1 e2
 rw [e2,List.getElem_set]
 split
 ·rename_i hh;subst hh;rw [if_pos (by omega)]
 ·rename_i hh
  rw [e1]
  by_cases h3:j<k
  ·rw [if_pos h3,if_pos (by omega)]
  ·rw [if_neg h3,if_neg (by omega)]
theorem less_at {k:Nat} (hk:k<27):std.get 0 (std.set (subTo c d k) k (std.sub (std.get 0 (subTo c d k) k) (std.get 0 d k))) k=c.getD k 0-d.getD k 0:=by
 show ((subTo c d k).set k ((subTo c d k).getD k 0-d.getD k 0)).getD k 0=_
 have:=sub_get (c:=c) (d:=d) (k:=k) (j:=k) hk
 rw [if_neg (by omega)] at this
 rw [this,List.getD_eq_getElem?_getD,List.getElem?_set,if_pos rfl,if_pos (by rw [sub_len];exact hk)]
 rfl
end
theorem less_lt {c d:List Int} {k:Int} (hk:0≤k∧k<27) (h:std.ltI (std.get 0 (std.set (subTo c d k.toNat) k (std.sub (std.get 0 (subTo c d k.toNat) k) (std.get 0 d k))) k) 0=true):c.getD k.toNat 0<d.getD k.toNat 0:=by
 have h1:=lt_of h
 have h2:=less_at (c:=c) (d:=d) (k:=k.toNat) (by omega)
 rw [Int.toNat_of_nonneg hk.1] at h2
 rw [h2] at h1
 omega
theorem less_ge {c d:List Int} {k:Int} (hk:0≤k∧k<27) (h:std.ltI (std.get 0 (std.set (subTo c d k.toNat) k (std.sub (std.get 0 (subTo c d k.toNat) k) (std.get 0 d k))) k) 0=false):d.getD k.toNat 0≤c.getD k.toNat 0:=by
 have h1:=ge_of h
 have h2:=less_at (c:=c) (d:=d) (k:=k.toNat) (by omega)
 rw [Int.toNat_of_nonneg hk.1] at h2
 rw [h2] at h1
 omega
theorem lessOk_no {c d:List Int} {k:Nat} (hk:k<27) (h:c.getD k 0<d.getD k 0):lessOk c d=false:=by
 unfold lessOk
 rw [List.all_eq_false]
 exact⟨k,List.mem_range.2 hk,by simp;simpa using h⟩
theorem less_no {c d:List Int} {k:Nat} (hk:k<27) (h:c.getD k 0<d.getD k 0):lessR c d=zeroC:=by
 unfold lessR
 rw [lessOk_no hk h];rfl
theorem lessOk_all {c d:List Int} (h : ∀j,j<27→d.getD j 0≤c.getD j 0):lessOk c d=true:=by
 unfold lessOk
 rw [List.all_eq_true]
 intro j hj
 exact decide_eq_true (h j (List.mem_range.1 hj))
theorem less_all {c d:List Int} (h : ∀j,j<27→d.getD j 0≤c.getD j 0):subTo c d 27=lessR c d:=by
 unfold lessR
 rw [lessOk_all h];rfl
theorem less_ct {c d:List Int} {m:Int} (hc:CtP c m) (hd:CtP d m):CtP (lessR c d) m:=by
 unfold lessR
 by_cases h:lessOk c d=true
 ·rw [if_pos h]
  have h0 : ∀j,j<27→d.getD j 0≤c.getD j 0:=fun j hj=>by
   unfold lessOk at h
   have:=List.all_eq_true.1 h j (List.mem_range.2 hj)
   simpa using this
  have hg : ∀j,(subTo c d 27).getD j 0=if j<27 then c.getD j 0-d.getD j 0 else 0:=fun j=>by
   by_cases hj:j<27
   ·rw [sub_get hj,if_pos hj];simp [hj]
   ·rw [if_neg hj,List.getD_eq_getElem?_getD,List.getElem?_eq_none (by rw [sub_len];omega)];rfl
  refine⟨sub_len 27,fun j=>?_,fun j=>?_⟩
  ·rw [hg];split
   ·have:=h0 j ‹_›;omega
   ·omega
  ·rw [hg]
   have h1:=hc.hi j;have h2:=hd.lo j;have h3:=hc.lo j
   split<;>omega
 ·rw [if_neg h]
  refine zero_ct.mono ?_
  have h1:=hc.lo 0;have h2:=hc.hi 0
  omega
def sp_i_counts_less (p:Pr):FSpec:=fsp (ac aCt (a1 aCt)) (fun (c,d)=>CtP c 1000000000∧CtP d 1000000000) (fun (c,d)=>.tup [.arr (.i .i64) 27 (lessR c d),.b (lessOk c d)])
theorem ok_i_counts_less:FOk Tryz.prog 223 (sp_i_counts_less std):=by
 refine FOk.go (c:=cx std [] [] 0) (cx_ok .nil .nil) mixed Tryz.func223 rfl rfl rfl (by kernel_rfl) ?_
 rintro ⟨c,d⟩ hp
 dsimp only at hp
 refine⟨rfl,?_⟩
 obtain⟨H,hH⟩ : ∃H:Hd (Int×List Int),H=⟨fun (k,L)=>0≤k∧k≤27∧L=subTo c d k.toNat∧∀j,j<k.toNat→d.getD j 0≤c.getD j 0,fun (k,L)=>(27-k).toNat,(· < ·)⟩:=⟨_,rfl⟩
 have hl : ∀m n,H.lt m n→m<n:=by subst hH;exact fun _ _ h=>h
 generalize hP:std=p,hB0:lessR=B0,hB1:lessOk=B1
 cbv
 repeat' first
  | (refine fun (_:Unit)=>?_;cbv)
  | (refine Or.inr ⟨10,[],[.s 9 (.i .i64),.o 0 [.i .i64]],[],[],H,rfl,hl,?_,fun ((k,L):Int×List Int) hk=>?_⟩<;>cbv)
  | (refine aI2 (fun h=>?_) (fun h=>?_)<;>cbv)
  | (refine aI2 ?_ ?_)
 all_goals subst hP hB0 hB1 hH
 all_goals clear hl
 all_goals try dsimp only at hk
 all_goals try dsimp only
 all_goals try exact fin
 ·exact⟨Int.le_refl 0,by decide,(sub_zero hp.1.len).symm,fun j hj=>by simp at hj⟩
 all_goals obtain⟨q0,q1,rfl,q3⟩:=hk
 all_goals have c1:=hp.1.lo k.toNat
 all_goals have c2:=hp.1.hi k.toNat
 all_goals have d1:=hp.2.lo k.toNat
 all_goals have d2:=hp.2.hi k.toNat
 all_goals try (have hlt:k<27:=lt_of ‹_›)
 all_goals try (have hg:=sub_get (c:=c) (d:=d) (k:=k.toNat) (j:=k.toNat) (by omega);rw [if_neg (by omega)] at hg)
 ·exact in64 (by show _≤(subTo c d k.toNat).getD k.toNat 0-d.getD k.toNat 0∧(subTo c d k.toNat).getD k.toNat 0-d.getD k.toNat 0≤_;omega)
 ·rw [less_no (k:=k.toNat) (by omega) (less_lt ⟨by omega,by omega⟩ ‹_›)];rfl
 ·exact lessOk_no (k:=k.toNat) (by omega) (less_lt ⟨by omega,by omega⟩ ‹_›)
 ·have h4:=less_ge (c:=c) (d:=d) (k:=k) ⟨q0,hlt⟩ (show std.ltI (std.get 0 (std.set (subTo c d k.toNat) k (std.sub (std.get 0 (subTo c d k.toNat) k) (std.get 0 d k))) k) 0=false by assumption)
  refine⟨by show 0≤k+1;omega,by show k+1≤27;omega,?_,fun j hj=>?_⟩
  ·show (subTo c d k.toNat).set k.toNat ((subTo c d k.toNat).getD k.toNat 0-d.getD k.toNat 0)=_
   rw [hg,k_suc q0]
   exact sub_suc (by omega)
  ·rw [k_suc q0] at hj
   by_cases hjk:j<k.toNat
   ·exact q3 j hjk
   ·rw [show j=k.toNat by omega];exact h4
 all_goals
  have hge:27≤k:=ge_of ‹_›
  have e:k.toNat=27:=by omega
  rw [e] at q3
 ·rw [e,less_all q3]
 ·exact lessOk_all q3
def sp_i_sorted (p:Pr):FSpec:=fsp (a1 aS) (fun s=>StP s) (fun s=>.s (pileL (countsL s)))
theorem ok_i_sorted:FOk Tryz.prog 58 (sp_i_sorted std):=by
 refine FOk.go (c:=cx std [(136,sp_i_countsOf std),(137,sp_pile std)] [] 0) (cx_ok (.cons ok_i_countsOf (.cons ok_pile .nil)) .nil) mixed Tryz.func58 rfl rfl rfl (by kernel_rfl) ?_
 rintro s hp
 refine⟨rfl,?_⟩
 unfold sp_i_countsOf sp_pile
 generalize hP:std=p,hB0:pileL=B0,hB1:countsL=B1
 cbv
 repeat' first
  | (refine fun (_:Unit)=>?_;cbv)
  | (refine aI2 (fun h=>?_) (fun h=>?_)<;>cbv)
  | (refine aI2 ?_ ?_)
  | (refine Or.inl (fun (_:Unit)=>?_);cbv)
 all_goals subst hP hB0 hB1
 all_goals try exact fin
 ·exact (counts_ct s).mono (by have:=hp.len;omega)
def sp_i_without (p:Pr):FSpec:=fsp (ac aS (a1 aS)) (fun (a,b)=>StP a∧StP b) (fun (a,b)=>.tup [.s (withoutS a b),.b (withoutB a b)])
theorem ok_i_without:FOk Tryz.prog 169 (sp_i_without std):=by
 refine FOk.go (c:=cx std [(136,sp_i_countsOf std),(223,sp_i_counts_less std),(137,sp_pile std)] [] 0) (cx_ok (.cons ok_i_countsOf (.cons ok_i_counts_less (.cons ok_pile .nil))) .nil) mixed Tryz.func169 rfl rfl rfl (by kernel_rfl) ?_
 rintro ⟨a,b⟩ hp
 dsimp only at hp
 refine⟨rfl,?_⟩
 unfold sp_i_countsOf sp_i_counts_less sp_pile
 generalize hP:std=p,hB0:withoutS=B0,hB1:withoutB=B1,hB2:pileL=B2,hB3:countsL=B3,hB4:lessR=B4,hB5:lessOk=B5
 cbv
 repeat' first
  | (refine fun (_:Unit)=>?_;cbv)
  | (refine aI2 (fun h=>?_) (fun h=>?_)<;>cbv)
  | (refine aI2 ?_ ?_)
  | (refine Or.inl (fun (_:Unit)=>?_);cbv)
 all_goals subst hP hB0 hB1 hB2 hB3 hB4 hB5
 all_goals try exact fin
 all_goals have ha:=(counts_ct a).mono (n:=1000000000) (by have:=hp.1.len;omega)
 all_goals have hb:=(counts_ct b).mono (n:=1000000000) (by have:=hp.2.len;omega)
 ·exact ha
 ·exact hb
 ·exact less_ct ha hb
structure LlP (s:List UInt8):Prop where
 lt:lettB s=true
 len:s.length≤1000000
theorem clb_suc {s:List UInt8} {k:Int} (h0:0≤k) (h:k<s.length):countsL ((s.take (k+1).toNat).map blankC)=incAt (countsL ((s.take k.toNat).map blankC)) (tileK (blankC (s.getD k.toNat 0))):=by
 rw [tk h0 h 0]
 simp [countsL]
theorem lett_at {s:List UInt8} {k:Int} (h:lettB s=true) (h0:0≤k) (h1:k<s.length):smallB (s.getD k.toNat 0)=true∨capB (s.getD k.toNat 0)=true:=by
 rw [List.getD_eq_getElem?_getD,List.getElem?_eq_getElem (by omega)]
 have:=List.all_eq_true.1 h _ (List.getElem_mem (l:=s) (n:=k.toNat) (by omega))
 simpa using this
theorem lett_tile {c:UInt8} (h:smallB c=true∨capB c=true) (hc:capB c=false):tileB c=true:=by
 have h1:=h.resolve_right (by rw [hc];simp)
 unfold tileB;rw [h1,Bool.or_true]
def sp_i_tilesOf (p:Pr):FSpec:=fsp (a1 aS) (fun s=>LlP s) (fun s=>.s (tilesP s))
theorem ok_i_tilesOf:FOk Tryz.prog 80 (sp_i_tilesOf std):=by
 refine FOk.go (c:=cx std [(161,sp_i_capital std),(162,sp_i_place std),(137,sp_pile std)] [] 0) (cx_ok (.cons ok_i_capital (.cons ok_i_place (.cons ok_pile .nil))) .nil) mixed Tryz.func80 rfl rfl rfl (by kernel_rfl) ?_
 rintro s hp
 refine⟨rfl,?_⟩
 unfold sp_i_capital sp_i_place sp_pile
 obtain⟨H,hH⟩ : ∃H:Hd (Int×List Int),H=⟨fun (k,L)=>0≤k∧k≤s.length∧L=countsL ((s.take k.toNat).map blankC),fun (k,L)=>(s.length-k).toNat,(· < ·)⟩:=⟨_,rfl⟩
 have hl : ∀m n,H.lt m n→m<n:=by subst hH;exact fun _ _ h=>h
 generalize hP:std=p,hB0:tilesP=B0,hB1:pileL=B1,hB2:plcI=B2,hB3:inR=B3
 cbv
 repeat' first
  | (refine fun (_:Unit)=>?_;cbv)
  | (refine Or.inr ⟨5,[],[.s 4 (.i .i64),.o 0 [.i .i64]],[],[],H,rfl,hl,?_,fun ((k,L):Int×List Int) hk=>?_⟩<;>cbv)
  | (refine aI2 (fun h=>?_) (fun h=>?_)<;>cbv)
  | (refine aI2 ?_ ?_)
 all_goals subst hP hB0 hB1 hB2 hB3 hH
 all_goals clear hl
 all_goals try dsimp only at hk
 all_goals try dsimp only
 all_goals try exact fin
 ·exact⟨Int.le_refl 0,Int.natCast_nonneg _,rfl⟩
 all_goals obtain⟨q0,q1,rfl⟩:=hk
 all_goals have q1:k≤(s.length:Int):=q1
 all_goals have hl:=hp.len
 all_goals have hC:=counts_ct ((s.take k.toNat).map blankC)
 all_goals have hC2:(((s.take k.toNat).map blankC).length : Int)≤s.length:=by rw [List.length_map,List.length_take];omega
 all_goals try (have hlt:k<(s.length:Int):=lt_of ‹_›)
 ·have h1:=hC.lo 0
  have h2:=hC.hi 0
  exact in64 (by show _≤(countsL ((s.take k.toNat).map blankC)).getD 0 0+1∧(countsL ((s.take k.toNat).map blankC)).getD 0 0+1≤_;omega)
 ·exact in64 (by show _≤k+1∧k+1≤_;omega)
 ·refine⟨by show 0≤k+1;omega,by show k+1≤(s.length:Int);omega,?_⟩
  have hc:capB (s.getD k.toNat 0)=true:=by rw [←cap_byte];assumption
  have hb:blankC (s.getD k.toNat 0)=63:=by unfold blankC;rw [if_pos hc]
  show (countsL ((s.take k.toNat).map blankC)).set 0 ((countsL ((s.take k.toNat).map blankC)).getD 0 0+1)=_
  show _=countsL ((s.take (k+1).toNat).map blankC)
  rw [clb_suc q0 hlt,hb];rfl
 all_goals try (have hc:capB (s.getD k.toNat 0)=false:=by rw [←cap_byte];assumption)
 all_goals try (have hb:blankC (s.getD k.toNat 0)=s.getD k.toNat 0:=by unfold blankC;rw [hc];rfl)
 all_goals try (have hT:=plc_K (lett_tile (lett_at hp.lt q0 hlt) hc);obtain⟨hK,hK2⟩:=hT;have hK:plcI (std.byte s k)=(tileK (s.getD k.toNat 0):Int):=hK)
 ·show 0≤plcI (std.byte s k)∧plcI (std.byte s k)<27
  omega
 ·show 0≤plcI (std.byte s k)∧plcI (std.byte s k)<27
  omega
 ·have h1:=hC.lo (plcI (std.byte s k)).toNat
  have h2:=hC.hi (plcI (std.byte s k)).toNat
  exact in64 (by show _≤(countsL ((s.take k.toNat).map blankC)).getD (plcI (std.byte s k)).toNat 0+1∧(countsL ((s.take k.toNat).map blankC)).getD (plcI (std.byte s k)).toNat 0+1≤_;omega)
 ·show 0≤plcI (std.byte s k)∧plcI (std.byte s k)<27
  omega
 ·show 0≤plcI (std.byte s k)∧plcI (std.byte s k)<27
  omega
 ·exact in64 (by show _≤k+1∧k+1≤_;omega)
 ·refine⟨by show 0≤k+1;omega,by show k+1≤(s.length:Int);omega,?_⟩
  show (countsL ((s.take k.toNat).map blankC)).set (plcI (std.byte s k)).toNat ((countsL ((s.take k.toNat).map blankC)).getD (plcI (std.byte s k)).toNat 0+1)=_
  rw [hK,Int.toNat_natCast]
  show _=countsL ((s.take (k+1).toNat).map blankC)
  rw [clb_suc q0 hlt,hb];rfl
 ·exact hC.mono (by omega)
 ·rw [tk_all (ge_of ‹_›)];rfl
section
variable {b:Bd} {q:Pl} {k:Int}
theorem np_len:(npI b q).length =(newL b q).length :=by simp [npI]
theorem np_at (h0:0≤k) (h:k<(npI b q).length) : ∃n:Nat,n<q.word.length∧(npI b q).getD k.toNat 0=(n:Int)∧(placedI b q).take (k+1).toNat =(placedI b q).take k.toNat++[q.word.getD n 0]:=by
 rw [np_len] at h
 have hk:k.toNat<(newL b q).length :=by omega
 have hm:(newL b q)[k.toNat]∈newL b q:=List.getElem_mem hk
 refine⟨(newL b q)[k.toNat],?_,?_,?_⟩
 ·unfold newL newTo at hm
  exact List.mem_range.1 (List.mem_filter.1 hm).1
 ·unfold npI
  rw [List.getD_eq_getElem?_getD,List.getElem?_map,List.getElem?_eq_getElem hk];rfl
 ·rw [tk h0 (by rw [placedI,List.length_map];omega) 0]
  congr 2
  unfold placedI
  rw [List.getD_eq_getElem?_getD,List.getElem?_map,List.getElem?_eq_getElem hk];rfl
end
theorem toB_snoc1 (l:List UInt8) (c:UInt8):toBl l++[(c.toNat:Int)]=toBl (l++[c]):=by simp [toBl]
def sp_i_placedTiles (p:Pr):FSpec:=fsp (ac (aA aBd) (a1 (aA aPl))) (fun (b,q)=>VP b q) (fun (b,q)=>.s (tilesP (placedI b q)))
theorem ok_i_placedTiles:FOk Tryz.prog 306 (sp_i_placedTiles std):=by
 refine FOk.go (c:=cx std [(215,sp_i_newSquares std),(80,sp_i_tilesOf std)] [] 0) (cx_ok (.cons ok_i_newSquares (.cons ok_i_tilesOf .nil)) .nil) mixed Tryz.func306 rfl rfl rfl (by kernel_rfl) ?_
 rintro ⟨b,q⟩ hp
 dsimp only at hp
 refine⟨rfl,?_⟩
 unfold sp_i_newSquares sp_i_tilesOf
 obtain⟨H,hH⟩ : ∃H:Hd (Int×List Int),H=⟨fun (k,L)=>0≤k∧k≤(npI b q).length ∧L=toBl ((placedI b q).take k.toNat),fun (k,L)=>((npI b q).length - k).toNat,(· < ·)⟩:=⟨_,rfl⟩
 have hl : ∀m n,H.lt m n→m<n:=by subst hH;exact fun _ _ h=>h
 generalize hP:std=p,hB0:tilesP=B0,hB1:placedI=B1,hB2:nsI=B2,hB3:npI=B3
 cbv
 repeat' first
  | (refine fun (_:Unit)=>?_;cbv)
  | (refine Or.inr ⟨20,[],[.s 19 (.i .i64),.o 2 [.i .u8]],[.s 7],[],H,rfl,hl,?_,fun ((k,L):Int×List Int) hk=>?_⟩<;>cbv)
  | (refine aI2 (fun h=>?_) (fun h=>?_)<;>cbv)
  | (refine aI2 ?_ ?_)
 all_goals subst hP hB0 hB1 hB2 hB3 hH
 all_goals clear hl
 all_goals try dsimp only at hk
 all_goals try dsimp only
 all_goals try exact fin
 ·exact⟨Int.le_refl 0,Int.natCast_nonneg _,rfl⟩
 all_goals obtain⟨q0,q1,rfl⟩:=hk
 all_goals have q1:k≤((npI b q).length : Int):=q1
 all_goals have hn:=newTo_length b q q.word.length
 all_goals have hn2:(npI b q).length ≤q.word.length:=by rw [np_len];exact hn
 all_goals have hw:=hp.hi
 all_goals have hll:((placedI b q).take k.toNat).length ≤12:=by rw [List.length_take];unfold placedI newL;rw [List.length_map];omega
 all_goals try (have hlt:k<((npI b q).length : Int):=lt_of ‹_›;obtain⟨n,n1,n2,n3⟩:=np_at q0 hlt)
 ·show 0≤(npI b q).getD k.toNat 0∧(npI b q).getD k.toNat 0<(q.word.length:Int)
  rw [n2];omega
 ·show ((toBl ((placedI b q).take k.toNat)).length : Int)+1≤_
  rw [toB_len];omega
 ·exact in64 (by show _≤k+1∧k+1≤_;omega)
 ·refine⟨by show 0≤k+1;omega,by show k+1≤((npI b q).length : Int);omega,?_⟩
  show toBl ((placedI b q).take k.toNat)++[((q.word.getD ((npI b q).getD k.toNat 0).toNat 0).toNat : Int)]=_
  rw [n2,Int.toNat_natCast,toB_snoc1]
  show _=toBl ((placedI b q).take (k+1).toNat)
  rw [n3]
 all_goals have hge:((npI b q).length : Int)≤k:=ge_of ‹_›
 all_goals have e:(placedI b q).take k.toNat=placedI b q:=List.take_of_length_le (by unfold placedI;rw [List.length_map];rw [np_len] at hge;omega)
 ·refine⟨?_,?_⟩
  ·show lettB (toSl (toBl ((placedI b q).take k.toNat)))=true
   rw [toS_toB,e];exact placedI_lett hp.lett
  ·show (toSl (toBl ((placedI b q).take k.toNat))).length ≤1000000
   rw [toS_toB];omega
 ·show tilesP (toSl (toBl ((placedI b q).take k.toNat)))=_
  rw [toS_toB,e]
def sp_i_valueOf (p:Pr):FSpec:=fsp (ac (aA aTs) (a1 aC)) (fun (t,n)=>p.inK .u8 n∧TsOk t) (fun (t,n)=>.i .i64 (valT t (u8 n)))
theorem ok_i_valueOf:FOk Tryz.prog 221 (sp_i_valueOf std):=by
 refine FOk.go (c:=cx std [(211,sp_index std)] [] 0) (cx_ok (.cons ok_index .nil) .nil) mixed Tryz.func221 rfl rfl rfl (by kernel_rfl) ?_
 rintro ⟨t,n⟩ hp
 dsimp only at hp
 refine⟨rfl,?_⟩
 unfold sp_index
 generalize hP:std=p,hB0:findI=B0,hB1:valT=B1,hB2:u8=B2
 cbv
 repeat' first
  | (refine fun (_:Unit)=>?_;cbv)
  | (refine aI2 (fun h=>?_) (fun h=>?_)<;>cbv)
  | (refine aI2 ?_ ?_)
  | (refine Or.inl (fun (_:Unit)=>?_);cbv)
 all_goals subst hP hB0 hB1 hB2
 all_goals try exact fin
 ·have h1:0≤findI t.letters (u8 n):=by simpa using h
  have h2:=findI_K t.letters (u8 n)
  have h3:=hp.2.vals
  refine⟨h1,?_⟩
  show findI t.letters (u8 n)<((t.values.length:Nat):Int)
  rw [h2] at h1 ⊢
  split at h1<;>omega
 ·have h1:0≤findI t.letters (u8 n):=by simpa using h
  rw [valT_I,if_neg (by omega)];rfl
 ·have h1:findI t.letters (u8 n)<0:=by simpa using h
  rw [valT_I,if_pos h1]
def sp_i_lettersValue (p:Pr):FSpec:=fsp (ac (aA aTs) (a1 aS)) (fun (t,s)=>TsOk t∧p.ltM (p.lenS s)) (fun (t,s)=>.i .i64 (sumT t s))
theorem ok_i_lettersValue:FOk Tryz.prog 163 (sp_i_lettersValue std):=by
 refine FOk.go (c:=cx std [(221,sp_i_valueOf std)] [] 0) (cx_ok (.cons ok_i_valueOf .nil) .nil) mixed Tryz.func163 rfl rfl rfl (by kernel_rfl) ?_
 rintro ⟨t,s⟩ hp
 dsimp only at hp
 refine⟨rfl,?_⟩
 unfold sp_i_valueOf
 obtain⟨H,hH⟩ : ∃H:Hd (Int×Int),H=⟨fun (m,k)=>0≤k∧k≤s.length∧sumT t s=m+sumT t (s.drop k.toNat)∧0≤m∧m≤20*k,fun (m,k)=>(s.length-k).toNat,(· < ·)⟩:=⟨_,rfl⟩
 have hl : ∀m n,H.lt m n→m<n:=by subst hH;exact fun _ _ h=>h
 generalize hP:std=p,hB0:valT=B0,hB1:sumT=B1,hB2:u8=B2
 cbv
 repeat' first
  | (refine fun (_:Unit)=>?_;cbv)
  | (refine Or.inr ⟨7,[],[.s 5 (.i .i64),.s 6 (.i .i64)],[],[],H,rfl,hl,?_,fun ((m,k):Int×Int) hk=>?_⟩<;>cbv)
  | (refine aI2 (fun h=>?_) (fun h=>?_)<;>cbv)
  | (refine aI2 ?_ ?_)
 all_goals subst hP hB0 hB1 hB2 hH
 all_goals clear hl
 all_goals try dsimp only at hk
 all_goals try dsimp only
 all_goals try exact fin
 all_goals try simp only [eta_ts] at *
 ·obtain⟨q0,q1,e,q2,q3⟩:=hk
  have h1:=lt_of h
  have h2:=hp.1.lo (u8 (std.byte s k))
  have h3:=hp.1.hi (u8 (std.byte s k))
  have h4:(s.length:Int)≤274877906944:=hp.2
  have h5:k<(s.length:Int):=h1
  exact in64 (by show _≤m+valT t (u8 (std.byte s k))∧m+valT t (u8 (std.byte s k))≤_;omega)
 ·obtain⟨q0,q1,e,q2,q3⟩:=hk
  have h1:k<(s.length:Int):=lt_of h
  have h2:=hp.1.lo (u8 (std.byte s k))
  have h3:=hp.1.hi (u8 (std.byte s k))
  refine⟨by show 0≤k+1;omega,by show k+1≤(s.length:Int);omega,?_,by show 0≤m+valT t (u8 (std.byte s k));omega,by show m+valT t (u8 (std.byte s k))≤20*(k+1);omega⟩
  rw [e,dc q0 h1 0,u8_byte]
  simp [sumT,Int.add_assoc]
 ·obtain⟨q0,q1,e,q2,q3⟩:=hk
  rw [e,dn (ge_of h)]
  simp [sumT]
def allTo (t:TS) (k:Nat):List UInt8:=List.replicate t.blanks.toNat 63++repT (t.letters.take k) (t.counts.take k)
structure TlP (t:TS):Prop where
 al:AllP t
 b0:0≤t.blanks
 lo : ∀k:Nat,0≤t.counts.getD k 0
theorem rep_one (c:UInt8) (n:Int):repS [c] n=List.replicate n.toNat c:=by
 unfold repS
 generalize n.toNat=m
 induction m with
 | zero=>rfl
 | succ m ih=>rw [List.replicate_succ,←ih];rfl
theorem sl_one {s:List UInt8} {k:Int} (h0:0≤k) (h:k<s.length):(s.take (k+1).toNat).drop k.toNat=[s.getD k.toNat 0]:=by
 rw [tk h0 h 0,List.drop_append_of_le_length (by rw [List.length_take];omega),List.drop_of_length_le (by rw [List.length_take];omega)]
 rfl
theorem repT_snoc : ∀(l:List UInt8) (c:List Int) (k:Nat),k<l.length→k<c.length→repT (l.take (k+1)) (c.take (k+1))=repT (l.take k) (c.take k)++List.replicate (c.getD k 0).toNat (l.getD k 0)
 | a::r,x::cs,0,_,_=>by simp [repT]
 | a::r,x::cs,k+1,h1,h2=>by
   have:=repT_snoc r cs k (by simpa using h1) (by simpa using h2)
   simp only [List.take_succ_cons,repT,List.getD_cons_succ,List.append_assoc] at this ⊢
   rw [this]
 | [],_,_,h,_=>by simp at h
 | _::_,[],_,_,h=>by simp at h
theorem all_suc {t:TS} {k:Int} (h0:0≤k) (h:k<t.counts.length) (h2:t.counts.length=t.letters.length):allTo t (k+1).toNat =allTo t k.toNat++List.replicate (t.counts.getD k.toNat 0).toNat (t.letters.getD k.toNat 0):=by
 unfold allTo
 rw [show (k+1).toNat =k.toNat+1 by omega,repT_snoc _ _ _ (by omega) (by omega),List.append_assoc]
theorem all_bd {t:TS} (h:TlP t) : ∀k:Nat,k≤t.counts.length→(allTo t k).length ≤4+20*k
 | 0,_=>by
   have:=h.al.bl
   unfold allTo
   simp [repT];omega
 | k+1,hk=>by
   have h1:=all_bd h k (by omega)
   have h2:=all_suc (t:=t) (k:=k) (by omega) (by omega) h.al.ok.cnts
   have h3:=h.al.hi k
   rw [show ((k:Int)+1).toNat =k+1 by omega,Int.toNat_natCast] at h2
   rw [h2,List.length_append,List.length_replicate]
   omega
def sp_i_allTiles (p:Pr):FSpec:=fsp (a1 (aA aTs)) (fun t=>TlP t) (fun t=>.s (allT t))
theorem ok_i_allTiles:FOk Tryz.prog 59 (sp_i_allTiles std):=by
 refine FOk.go (c:=cx std [(139,sp_repeat std)] [(138,sp_wStr std),(140,sp_strU std)] 0) (cx_ok (.cons ok_repeat .nil) (.cons ok_wStr (.cons ok_strU .nil))) mixed Tryz.func59 rfl rfl rfl (by kernel_rfl) ?_
 rintro t hp
 refine⟨rfl,?_⟩
 unfold sp_repeat sp_wStr sp_strU
 obtain⟨H,hH⟩ : ∃H:Hd (Int×List Int),H=⟨fun (k,L)=>0≤k∧k≤t.counts.length∧L=toBl (allTo t k.toNat),fun (k,L)=>(t.counts.length-k).toNat,(· < ·)⟩:=⟨_,rfl⟩
 have hl : ∀m n,H.lt m n→m<n:=by subst hH;exact fun _ _ h=>h
 generalize hP:std=p,hB0:allT=B0,hB1:repS=B1,hB2:allTo=B2
 cbv
 repeat' first
  | (refine fun (_:Unit)=>?_;cbv)
  | (refine Or.inr ⟨14,[],[.s 13 (.i .i64),.o 2 [.i .u8]],[.c 1 1],[],H,rfl,hl,?_,fun ((k,L):Int×List Int) hk=>?_⟩<;>cbv)
  | (refine aI2 (fun h=>?_) (fun h=>?_)<;>cbv)
  | (refine aI2 ?_ ?_)
 all_goals subst hP hB0 hB1 hB2 hH
 all_goals clear hl
 all_goals try dsimp only at hk
 all_goals try dsimp only
 all_goals try exact fin
 ·exact hp.b0
 ·have:=hp.al.bl;show t.blanks≤65536;omega
 ·exact ltM_of (by have:=hp.al.bl;show (repS [63] t.blanks).length ≤_;rw [rep_one,List.length_replicate];omega)
 ·refine⟨Int.le_refl 0,Int.natCast_nonneg _,?_⟩
  show toBl (repS [63] t.blanks)=_
  rw [rep_one];simp [allTo,repT]
 all_goals try obtain⟨q0,q1,rfl⟩:=hk
 all_goals try (have q1:k≤(t.counts.length:Int):=q1)
 all_goals have hc:=hp.al.ok.cnts
 all_goals have hll:=hp.al.ok.len
 all_goals try (have hlt:k<(t.counts.length:Int):=lt_of ‹_›)
 all_goals try (have hb:=all_bd hp k.toNat (by omega))
 all_goals try (have hlo:=hp.lo k.toNat;have hhi:=hp.al.hi k.toNat)
 ·exact in64 (by show _≤k+1∧k+1≤_;omega)
 ·show k+1≤(t.letters.length:Int);omega
 ·exact hlo
 ·show t.counts.getD k.toNat 0≤65536;omega
 ·show ((toBl (allTo t k.toNat)).length : Int)+((repS ((t.letters.take (k+1).toNat).drop k.toNat) (t.counts.getD k.toNat 0)).length : Int)≤_
  rw [sl_one q0 (by omega),rep_one,List.length_replicate,toB_len];omega
 ·exact in64 (by show _≤k+1∧k+1≤_;omega)
 ·refine⟨by show 0≤k+1;omega,by show k+1≤(t.counts.length:Int);omega,?_⟩
  show toBl (allTo t k.toNat)++toBl (repS ((t.letters.take (k+1).toNat).drop k.toNat) (t.counts.getD k.toNat 0))=_
  rw [sl_one q0 (by omega),rep_one]
  show _=toBl (allTo t (k+1).toNat)
  rw [all_suc q0 hlt hc]
  simp [toBl]
 ·intro hx
  unfold toBl at hx
  obtain⟨c, -,rfl⟩:=List.mem_map.1 hx
  have:=c.toNat_lt
  omega
 ·have hge:(t.counts.length:Int)≤k:=ge_of ‹_›
  show toSl (toBl (allTo t k.toNat))=_
  rw [toS_toB]
  unfold allTo allT
  rw [List.take_of_length_le (by omega),List.take_of_length_le (by omega)]
end Ax
namespace Ax
set_option maxRecDepth 100000
set_option maxHeartbeats 2000000
def aDir:Arg Bool:=⟨fun | .raw (.iface t (.agg ⟨[]⟩))=>if Nat.beq t 325 then some true else if Nat.beq t 326 then some false else none | _=>none,dirV,fun x a h=>by
 split at h
 ·split at h
  ·rename_i ht
   cases h
   rw [Nat.eq_of_beq_eq_true ht];rfl
  ·split at h
   ·rename_i ht
    cases h
    rw [Nat.eq_of_beq_eq_true ht];rfl
   ·cases h
 ·cases h⟩
theorem let_in {b:Bd} {r c:Int} (h:b.let_ r c=true):b.inB r c=true:=by
 cases hi:b.inB r c
 ·unfold Bd.let_ Bd.cell at h
  rw [hi] at h
  simp at h
 ·rfl
structure SqIn (b:Bd) (r c:Int):Prop where
 fit:b.Fit
 r:0≤r∧r≤14
 c:0≤c∧c≤14
theorem on_bd {b:Bd} {d:Bool} {r c n:Int} (h:SqIn b r c) (ho:onAt b d r c n=true) : -14≤n∧n≤14:=by
 have h1:=Fit_in h.fit (let_in ho)
 have h2:=h.r
 have h3:=h.c
 unfold sqAt at h1
 cases d
 ·simp at h1;omega
 ·simp at h1;omega
theorem bef_go {b:Bd} {d:Bool} {r c:Int} {f m:Nat} (h:onAt b d r c (-(m:Int)-1)=true):befN b d r c (f+1) m=befN b d r c f (m+1):=by rw [befN,if_pos h]
theorem bef_no {b:Bd} {d:Bool} {r c:Int} {f m:Nat} (h:onAt b d r c (-(m:Int)-1)=false):befN b d r c (f+1) m=m:=by rw [befN,if_neg (by rw [h];simp)]
theorem seq_go {b:Bd} {d:Bool} {r c n:Int} {f:Nat} (h:onAt b d r c n=true):seqGo b d r c (f+1) n=n::seqGo b d r c f (n+1):=by rw [seqGo,if_pos h]
theorem seq_no {b:Bd} {d:Bool} {r c n:Int} {f:Nat} (h:onAt b d r c n=false):seqGo b d r c f n=[]:=by
 cases f with
 | zero=>rfl
 | succ f=>rw [seqGo,if_neg (by rw [h];simp)]
def firQ (b:Bd) (d:Bool) (r c:Int):Int:= -(befN b d r c 16 0:Int)
def befQ (b:Bd) (d:Bool) (r c n:Int):Prop:=n≤0∧ -15≤n∧befN b d r c 16 0=befN b d r c (16+n).toNat (-n).toNat
def seqQ (b:Bd) (d:Bool) (r c n:Int) (L:List (Int×Int)):Prop:=firQ b d r c≤n∧n≤15∧seqL b d r c=L++(seqGo b d r c (32-(n-firQ b d r c).toNat) n).map (fun n=>sqAt d r c n)∧(L.length:Int)=n-firQ b d r c
section
variable {b:Bd} {d:Bool} {r c n:Int} {L:List (Int×Int)}
theorem bef_le (b:Bd) (d:Bool) (r c:Int) : ∀f m,befN b d r c f m≤m+f
 | 0,m=>Nat.le_refl _
 | f+1,m=>by
   rw [befN]
   split
   ·have:=bef_le b d r c f (m+1);omega
   ·omega
theorem fir_bd : -16≤firQ b d r c∧firQ b d r c≤0:=by
 have:=bef_le b d r c 16 0
 unfold firQ;omega
theorem bef_init:befQ b d r c 0:=⟨Int.le_refl 0,by decide,rfl⟩
theorem bef_step (hp:SqIn b r c) (hk:befQ b d r c n) (h:onAt b d r c (n-1)=true):befQ b d r c (n-1)∧(16+(n-1)).toNat < (16+n).toNat :=by
 obtain⟨h1,h2,h3⟩:=hk
 have h4:=on_bd hp h
 refine⟨⟨by omega,by omega,?_⟩,by omega⟩
 rw [h3,show (16+n).toNat =(16+(n-1)).toNat + 1 by omega,bef_go (by rw [show -((-n).toNat : Int)-1=n-1 by omega];exact h)]
 congr 1;omega
theorem bef_end (hk:befQ b d r c n) (h:onAt b d r c (n-1)=false):seqQ b d r c n []:=by
 obtain⟨h1,h2,h3⟩:=hk
 have e:=bef_no (b:=b) (d:=d) (r:=r) (c:=c) (f:=(15+n).toNat) (m:=(-n).toNat) (by rw [show -((-n).toNat : Int)-1=n-1 by omega];exact h)
 rw [show (16+n).toNat =(15+n).toNat + 1 by omega,e] at h3
 have h4:firQ b d r c=n:=by unfold firQ;rw [h3];omega
 refine⟨by omega,by omega,?_,by rw [h4];simp⟩
 rw [h4,show 32-(n-n).toNat =32 by omega]
 unfold seqL seqN
 rw [show -(befN b d r c 16 0:Int)=n from h4]
 rfl
theorem seq_step (hp:SqIn b r c) (hk:seqQ b d r c n L) (h:onAt b d r c n=true):seqQ b d r c (n+1) (L++[sqAt d r c n])∧(16-(n+1)).toNat < (16-n).toNat :=by
 obtain⟨h1,h2,h3,h4⟩:=hk
 have h5:=on_bd hp h
 have h6:=fir_bd (b:=b) (d:=d) (r:=r) (c:=c)
 refine⟨⟨by omega,by omega,?_,by rw [List.length_append,List.length_singleton];omega⟩,by omega⟩
 rw [h3,show 32-(n-firQ b d r c).toNat =(32-(n+1-firQ b d r c).toNat)+1 by omega,seq_go h,List.map_cons,List.append_assoc]
 rfl
theorem seq_end (hk:seqQ b d r c n L) (h:onAt b d r c n=false):L=seqL b d r c:=by
 obtain⟨h1,h2,h3,h4⟩:=hk
 rw [h3,seq_no h];simp
theorem seq_len (hk:seqQ b d r c n L):L.length≤32:=by
 obtain⟨h1,h2,h3,h4⟩:=hk
 have h6:=fir_bd (b:=b) (d:=d) (r:=r) (c:=c)
 omega
end
def sp_i_sequence (p:Pr):FSpec:=fsp (ac (aA aBd) (ac (aA aSq) (a1 aDir))) (fun (b,s,d)=>SqIn b s.1 s.2) (fun (b,s,d)=>.rsl [.i .i64,.i .i64] (seqL b d s.1 s.2))
def sp_i_sequence_o (p:Pr):FSpec:=fsp (ac (aA aBd) (ac (aA aSq) (a1 aDir))) (fun (b,s,d)=>SqIn b s.1 s.2) (fun (b,s,d)=>.osl 0) (fun (b,s,d)=>[(0,.own [.i .i64,.i .i64] (seqL b d s.1 s.2) 268)])
theorem ok_i_sequence_o:FOk Tryz.prog 316 (sp_i_sequence_o std):=by
 refine FOk.go (c:=cx std [(395,sp_i_right_at std),(393,sp_i_downwards_at std),(247,sp_i_Board_on std)] [] 0) (cx_ok (.cons ok_i_right_at (.cons ok_i_downwards_at (.cons ok_i_Board_on .nil))) .nil) mixed Tryz.func316 rfl rfl rfl (by kernel_rfl) ?_
 rintro ⟨b,s,d⟩ hp
 dsimp only at hp
 obtain⟨dd,hd⟩ : ∃x,x=d:=⟨_,rfl⟩
 cases d
 all_goals
  refine⟨rfl,?_⟩
  unfold sp_i_right_at sp_i_downwards_at sp_i_Board_on
  obtain⟨H,hH⟩ : ∃H:Hd (Int),H=⟨fun n=>befQ b dd s.1 s.2 n,fun n=>(16+n).toNat,(· < ·)⟩:=⟨_,rfl⟩
  have hl : ∀m n,H.lt m n→m<n:=by subst hH;exact fun _ _ h=>h
  obtain⟨H2,hH2⟩ : ∃H:Hd (Int×List (Int×Int)),H=⟨fun (n,L)=>seqQ b dd s.1 s.2 n L,fun (n,L)=>(16-n).toNat,(· < ·)⟩:=⟨_,rfl⟩
  have hl2 : ∀m n,H2.lt m n→m<n:=by subst hH2;exact fun _ _ h=>h
  generalize hP:std=p,hB0:Bd.let_=B0,hB1:seqL=B1
  cbv
  repeat' first
   | (refine fun (_:Unit)=>?_;cbv)
   | (refine Or.inr ⟨10,[],[.s 7 (.i .i64)],[],[],H,rfl,hl,?_,fun (n:Int) hk=>?_⟩<;>cbv)
   | (refine Or.inr ⟨24,[],[.s 9 (.i .i64),.o 2 [.i .i64,.i .i64]],[.s 8],[],H2,rfl,hl2,?_,fun ((n,L):Int×List (Int×Int)) hk2=>?_⟩<;>cbv)
   | (refine aI2 (fun h=>?_) (fun h=>?_)<;>cbv)
   | (refine aI2 ?_ ?_)
 all_goals subst hP hB0 hB1 hH hH2
 all_goals clear hl
 all_goals try dsimp only at hk
 all_goals clear hl2
 all_goals try dsimp only at hk2
 all_goals try dsimp only
 all_goals try exact fin
 all_goals subst hd
 all_goals have fb:=fir_bd (b:=b) (d:=false) (r:=s.1) (c:=s.2)
 all_goals have fb':=fir_bd (b:=b) (d:=true) (r:=s.1) (c:=s.2)
 all_goals have b1:=hp.r
 all_goals have b2:=hp.c
 ·exact bef_init
 ·obtain⟨a1,a2,a3⟩:=hk;exact in64 (by show _≤n-1∧n-1≤_;omega)
 ·obtain⟨a1,a2,a3⟩:=hk;exact in64 (by show _≤s.2+(n-1)∧s.2+(n-1)≤_;omega)
 ·obtain⟨a1,a2,a3⟩:=hk;exact in64 (by show _≤n-1∧n-1≤_;omega)
 ·exact (bef_step hp hk (show onAt b false s.1 s.2 (n-1)=true by assumption)).1
 ·exact (bef_step hp hk (show onAt b false s.1 s.2 (n-1)=true by assumption)).2
 ·exact bef_end hk (show onAt b false s.1 s.2 (n-1)=false by assumption)
 ·obtain⟨a1,a2,a3,a4⟩:=hk2;exact in64 (by show _≤s.2+n∧s.2+n≤_;omega)
 ·obtain⟨a1,a2,a3,a4⟩:=hk2;exact in64 (by show _≤s.2+n∧s.2+n≤_;omega)
 ·have:=seq_len hk2
  show (L.length:Int)+1≤_;omega
 ·obtain⟨a1,a2,a3,a4⟩:=hk2;exact in64 (by show _≤n+1∧n+1≤_;omega)
 ·exact (seq_step hp hk2 (show onAt b false s.1 s.2 n=true by assumption)).1
 ·exact (seq_step hp hk2 (show onAt b false s.1 s.2 n=true by assumption)).2
 ·rw [seq_end hk2 (show onAt b false s.1 s.2 n=false by assumption)]
 ·exact bef_init
 ·obtain⟨a1,a2,a3⟩:=hk;exact in64 (by show _≤n-1∧n-1≤_;omega)
 ·obtain⟨a1,a2,a3⟩:=hk;exact in64 (by show _≤s.1+(n-1)∧s.1+(n-1)≤_;omega)
 ·obtain⟨a1,a2,a3⟩:=hk;exact in64 (by show _≤n-1∧n-1≤_;omega)
 ·exact (bef_step hp hk (show onAt b true s.1 s.2 (n-1)=true by assumption)).1
 ·exact (bef_step hp hk (show onAt b true s.1 s.2 (n-1)=true by assumption)).2
 ·exact bef_end hk (show onAt b true s.1 s.2 (n-1)=false by assumption)
 ·obtain⟨a1,a2,a3,a4⟩:=hk2;exact in64 (by show _≤s.1+n∧s.1+n≤_;omega)
 ·obtain⟨a1,a2,a3,a4⟩:=hk2;exact in64 (by show _≤s.1+n∧s.1+n≤_;omega)
 ·have:=seq_len hk2
  show (L.length:Int)+1≤_;omega
 ·obtain⟨a1,a2,a3,a4⟩:=hk2;exact in64 (by show _≤n+1∧n+1≤_;omega)
 ·exact (seq_step hp hk2 (show onAt b true s.1 s.2 n=true by assumption)).1
 ·exact (seq_step hp hk2 (show onAt b true s.1 s.2 n=true by assumption)).2
 ·rw [seq_end hk2 (show onAt b true s.1 s.2 n=false by assumption)]
theorem ok_i_sequence:FOk Tryz.prog 316 (sp_i_sequence std):=FOk.frz ok_i_sequence_o fun ⟨b,s,d⟩=>⟨by simp [deep,deeps,AH.get],by simp [PV.idIn,idInL]⟩
end Ax
namespace Ax
set_option maxRecDepth 100000
set_option maxHeartbeats 2000000
def crTo (b:Bd) (q:Pl) (k:Int):List ((Int×Int)×List (Int×Int)):=crossP b q ((newL b q).take k.toNat)
def crS1 (b:Bd) (q:Pl):List (Int×Int):=(crossP b q (newL b q)).map (·.1)
def crS2 (b:Bd) (q:Pl):List (List (Int×Int)):=(crossP b q (newL b q)).map (·.2)
section
variable {b:Bd} {q:Pl} {k:Int}
theorem ns_len:(nsI b q).length =(newL b q).length :=by simp [nsI,sqL]
theorem ns_at (h0:0≤k) (h:k<(nsI b q).length) : ∃n:Nat,n<q.word.length∧(nsI b q).getD k.toNat (0,0)=(q.sr n,q.sc n)∧(newL b q).take (k+1).toNat =(newL b q).take k.toNat++[n]:=by
 rw [ns_len] at h
 have hk:k.toNat<(newL b q).length :=by omega
 have hm:(newL b q)[k.toNat]∈newL b q:=List.getElem_mem hk
 refine⟨(newL b q)[k.toNat],?_,?_,?_⟩
 ·unfold newL newTo at hm
  exact List.mem_range.1 (List.mem_filter.1 hm).1
 ·unfold nsI sqL
  rw [List.getD_eq_getElem?_getD,List.getElem?_map,List.getElem?_eq_getElem hk];rfl
 ·rw [tk h0 (by omega) 0,List.getD_eq_getElem?_getD,List.getElem?_eq_getElem hk];rfl
theorem cr_suc (h0:0≤k) (h:k<(nsI b q).length):crTo b q (k+1)=crTo b q k++if 2≤(seqL (madeB b q) (!q.down) ((nsI b q).getD k.toNat (0,0)).1 ((nsI b q).getD k.toNat (0,0)).2).length then [((nsI b q).getD k.toNat (0,0),seqL (madeB b q) (!q.down) ((nsI b q).getD k.toNat (0,0)).1 ((nsI b q).getD k.toNat (0,0)).2)] else []:=by
 obtain⟨n,h1,h2,h3⟩:=ns_at h0 h
 rw [h2]
 unfold crTo
 rw [h3]
 unfold crossP sqL
 rw [List.map_append,List.map_append,List.filter_append]
 congr 1
 by_cases h4:2≤(seqL (madeB b q) (!q.down) (q.sr (n:Int)) (q.sc (n:Int))).length
 ·simp [h4]
 ·simp [h4]
theorem made_fit (h:VP b q):(madeB b q).Fit :=⟨h.fit.lo,h.fit.hi,h.fit.prem,by show ((madeTo b q q.word.length).length : Int)=_;rw [made_len];exact h.fit.cells⟩
theorem ns_in (hp:VP b q) (h0:0≤k) (h:k<(nsI b q).length):b.inB ((nsI b q).getD k.toNat (0,0)).1 ((nsI b q).getD k.toNat (0,0)).2=true:=by
 obtain⟨n,h1,h2, -⟩:=ns_at h0 h
 rw [h2]
 exact hp.on n h1
theorem ns_sq (hp:VP b q) (h0:0≤k) (h:k<(nsI b q).length):SqIn (madeB b q) ((nsI b q).getD k.toNat (0,0)).1 ((nsI b q).getD k.toNat (0,0)).2:=by
 have h1:=Fit_in hp.fit (ns_in hp h0 h)
 exact⟨made_fit hp,h1.1,h1.2⟩
theorem cr_len (hp:VP b q):(crTo b q k).length ≤12:=by
 have h1:=crossP_length b q ((newL b q).take k.toNat)
 have h2:=newTo_length b q q.word.length
 have h3:=hp.hi
 have h4:((newL b q).take k.toNat).length ≤(newL b q).length :=by rw [List.length_take];omega
 have h5:(newL b q).length ≤q.word.length:=h2
 unfold crTo
 omega
theorem cr_all (hge:((nsI b q).length : Int)≤k):crTo b q k=crossP b q (newL b q):=by
 unfold crTo
 rw [List.take_of_length_le (by rw [ns_len] at hge;omega)]
end
def sp_i_crossings (p:Pr):FSpec:=fsp (ac (aA aBd) (a1 (aA aPl))) (fun (b,q)=>VP b q) (fun (b,q)=>.tup [.rsl [.i .i64,.i .i64] (crS1 b q),.rsl [.r [.i .i64,.i .i64]] (crS2 b q)])
def sp_i_crossings_o (p:Pr):FSpec:=fsp (ac (aA aBd) (a1 (aA aPl))) (fun (b,q)=>VP b q) (fun (b,q)=>.tup [.osl 0,.osl 1]) (fun (b,q)=>[(0,.own [.i .i64,.i .i64] (crS1 b q) 268),(1,.own [.r [.i .i64,.i .i64]] (crS2 b q) 232)])
theorem ok_i_crossings_o:FOk Tryz.prog 284 (sp_i_crossings_o std):=by
 refine FOk.go (c:=cx std [(214,sp_i_made std),(215,sp_i_newSquares std),(316,sp_i_sequence std),(279,sp_i_directionOf std),(396,sp_i_right_cross std),(394,sp_i_downwards_cross std)] [] 0) (cx_ok (.cons ok_i_made (.cons ok_i_newSquares (.cons ok_i_sequence (.cons ok_i_directionOf (.cons ok_i_right_cross (.cons ok_i_downwards_cross .nil)))))) .nil) mixed Tryz.func284 rfl rfl rfl (by kernel_rfl) ?_
 rintro ⟨b,q⟩ hp
 dsimp only at hp
 obtain⟨row,col,dn,wd⟩:=q
 obtain⟨q,hq⟩ : ∃x:Pl,x=⟨row,col,dn,wd⟩:=⟨_,rfl⟩
 cases dn
 all_goals
  refine⟨rfl,?_⟩
  unfold sp_i_made sp_i_newSquares sp_i_sequence sp_i_directionOf sp_i_right_cross sp_i_downwards_cross
  obtain⟨H,hH⟩ : ∃H:Hd (Int×List (Int×Int)×List (List (Int×Int))),H=⟨fun (k,S,W)=>0≤k∧k≤(nsI b q).length ∧S=(crTo b q k).map (·.1)∧W=(crTo b q k).map (·.2),fun (k,S,W)=>((nsI b q).length - k).toNat,(· < ·)⟩:=⟨_,rfl⟩
  have hl : ∀m n,H.lt m n→m<n:=by subst hH;exact fun _ _ h=>h
  generalize hP:std=p,hB0:crS1=B0,hB1:crS2=B1,hB2:madeB=B2,hB3:nsI=B3,hB4:npI=B4,hB5:seqL=B5
  cbv
  repeat' first
   | (refine fun (_:Unit)=>?_;cbv)
   | (refine Or.inr ⟨28,[],[.s 27 (.i .i64),.o 3 [.i .i64,.i .i64],.o 4 [.r [.i .i64,.i .i64]]],[.s 9,.s 10],[],H,rfl,hl,?_,fun ((k,S,W):Int×List (Int×Int)×List (List (Int×Int))) hk=>?_⟩<;>cbv)
   | (refine aI2 (fun h=>?_) (fun h=>?_)<;>cbv)
   | (refine aI2 ?_ ?_)
 all_goals subst hP hB0 hB1 hB2 hB3 hB4 hB5 hH
 all_goals clear hl
 all_goals try dsimp only at hk
 all_goals try dsimp only
 all_goals try exact fin
 all_goals (have hdn:=congrArg Pl.down hq;dsimp only at hdn)
 all_goals (try simp only [eta_bd,←hq] at *)
 all_goals try (obtain⟨q0,q1,rfl,rfl⟩:=hk)
 all_goals try (have q1:k≤((nsI b q).length : Int):=q1)
 all_goals try (have hlt:k<((nsI b q).length : Int):=lt_of ‹_›)
 all_goals (have hn:=newTo_length b q q.word.length;have hw:=hp.hi;have hnl:=ns_len (b:=b) (q:=q);have hn:(newL b q).length ≤q.word.length:=hn)
 ·exact⟨Int.le_refl 0,Int.natCast_nonneg _,rfl,rfl⟩
 ·exact ns_sq hp (by omega) (by omega)
 ·have:=cr_len (k:=k) hp
  show (((crTo b q k).map (·.1)).length : Int)+1≤_
  rw [List.length_map];omega
 ·have:=cr_len (k:=k) hp
  show (((crTo b q k).map (·.2)).length : Int)+1≤_
  rw [List.length_map];omega
 ·exact in64 (by show _≤k+1∧k+1≤_;omega)
 ·have h2:2≤(seqL (madeB b q) (!q.down) ((nsI b q).getD k.toNat (0,0)).1 ((nsI b q).getD k.toNat (0,0)).2).length :=by
   rw [hdn]
   have:=(show std.leI 2 (std.len (seqL (madeB b q) true ((nsI b q).getD k.toNat (0,0)).1 ((nsI b q).getD k.toNat (0,0)).2))=true by assumption)
   simp at this;simp;omega
  refine⟨by show 0≤k+1;omega,by show k+1≤((nsI b q).length : Int);omega,?_,?_⟩
  ·show (crTo b q k).map (·.1)++[(nsI b q).getD k.toNat (0,0)]=(crTo b q (k+1)).map (·.1)
   rw [cr_suc (by omega) (by omega),if_pos h2];simp
  ·show (crTo b q k).map (·.2)++[seqL (madeB b q) true ((nsI b q).getD k.toNat (0,0)).1 ((nsI b q).getD k.toNat (0,0)).2]=(crTo b q (k+1)).map (·.2)
   rw [cr_suc (by omega) (by omega),if_pos h2,hdn];simp
 ·exact in64 (by show _≤k+1∧k+1≤_;omega)
 ·have h2 : ¬2≤(seqL (madeB b q) (!q.down) ((nsI b q).getD k.toNat (0,0)).1 ((nsI b q).getD k.toNat (0,0)).2).length :=by
   rw [hdn]
   have:=(show std.leI 2 (std.len (seqL (madeB b q) true ((nsI b q).getD k.toNat (0,0)).1 ((nsI b q).getD k.toNat (0,0)).2))=false by assumption)
   simp at this;simp;omega
  refine⟨by show 0≤k+1;omega,by show k+1≤((nsI b q).length : Int);omega,?_,?_⟩
  ·show (crTo b q k).map (·.1)=(crTo b q (k+1)).map (·.1)
   rw [cr_suc (by omega) (by omega),if_neg h2];simp
  ·show (crTo b q k).map (·.2)=(crTo b q (k+1)).map (·.2)
   rw [cr_suc (by omega) (by omega),if_neg h2];simp
 ·rw [cr_all (ge_of ‹_›)];rfl
 ·rw [cr_all (ge_of ‹_›)];rfl
 ·exact⟨Int.le_refl 0,Int.natCast_nonneg _,rfl,rfl⟩
 ·exact ns_sq hp (by omega) (by omega)
 ·have:=cr_len (k:=k) hp
  show (((crTo b q k).map (·.1)).length : Int)+1≤_
  rw [List.length_map];omega
 ·have:=cr_len (k:=k) hp
  show (((crTo b q k).map (·.2)).length : Int)+1≤_
  rw [List.length_map];omega
 ·exact in64 (by show _≤k+1∧k+1≤_;omega)
 ·have h2:2≤(seqL (madeB b q) (!q.down) ((nsI b q).getD k.toNat (0,0)).1 ((nsI b q).getD k.toNat (0,0)).2).length :=by
   rw [hdn]
   have:=(show std.leI 2 (std.len (seqL (madeB b q) false ((nsI b q).getD k.toNat (0,0)).1 ((nsI b q).getD k.toNat (0,0)).2))=true by assumption)
   simp at this;simp;omega
  refine⟨by show 0≤k+1;omega,by show k+1≤((nsI b q).length : Int);omega,?_,?_⟩
  ·show (crTo b q k).map (·.1)++[(nsI b q).getD k.toNat (0,0)]=(crTo b q (k+1)).map (·.1)
   rw [cr_suc (by omega) (by omega),if_pos h2];simp
  ·show (crTo b q k).map (·.2)++[seqL (madeB b q) false ((nsI b q).getD k.toNat (0,0)).1 ((nsI b q).getD k.toNat (0,0)).2]=(crTo b q (k+1)).map (·.2)
   rw [cr_suc (by omega) (by omega),if_pos h2,hdn];simp
 ·exact in64 (by show _≤k+1∧k+1≤_;omega)
 ·have h2 : ¬2≤(seqL (madeB b q) (!q.down) ((nsI b q).getD k.toNat (0,0)).1 ((nsI b q).getD k.toNat (0,0)).2).length :=by
   rw [hdn]
   have:=(show std.leI 2 (std.len (seqL (madeB b q) false ((nsI b q).getD k.toNat (0,0)).1 ((nsI b q).getD k.toNat (0,0)).2))=false by assumption)
   simp at this;simp;omega
  refine⟨by show 0≤k+1;omega,by show k+1≤((nsI b q).length : Int);omega,?_,?_⟩
  ·show (crTo b q k).map (·.1)=(crTo b q (k+1)).map (·.1)
   rw [cr_suc (by omega) (by omega),if_neg h2];simp
  ·show (crTo b q k).map (·.2)=(crTo b q (k+1)).map (·.2)
   rw [cr_suc (by omega) (by omega),if_neg h2];simp
 ·rw [cr_all (ge_of ‹_›)];rfl
 ·rw [cr_all (ge_of ‹_›)];rfl
theorem ok_i_crossings:FOk Tryz.prog 284 (sp_i_crossings std):=FOk.frz ok_i_crossings_o fun ⟨b,q⟩=>⟨by simp [deep,deeps,AH.get],by simp [PV.idIn,idInL]⟩
end Ax
end Go.Proofs.YtghmphmbpdiflaaGreatDoor
