/-
  Crossings, words that a play forms, wrong words, whether it touches the board, its code, of the impl package.
  Conditions: none.
-/
import Derived.Test.YtjjonmhpgkahoaaGreatDoorH21
set_option linter.unusedSimpArgs false
set_option linter.unusedVariables false
namespace Go.Proofs.YtjjonmhpgkahoaaGreatDoor
namespace Ax
set_option maxRecDepth 100000
set_option maxHeartbeats 2000000
def iT (b:Bd) (q:Pl) (k:Int):List ((Int×Int)×List (Int×Int)):=cY b q ((bC b q).take k.toNat)
def eC (b:Bd) (q:Pl):List (Int×Int):=(cY b q (bC b q)).map (·.1)
def eo (b:Bd) (q:Pl):List (List (Int×Int)):=(cY b q (bC b q)).map (·.2)
section
variable {b:Bd} {q:Pl} {k:Int}
theorem lz:(nsI b q).length =(bC b q).length :=by simp [nsI,sqL]
theorem JW (h0:0≤k) (h:k<(nsI b q).length) : ∃n:Nat,n<q.word.length∧(nsI b q).getD k.toNat (0,0)=(q.sr n,q.sc n)∧(bC b q).take (k+1).toNat =(bC b q).take k.toNat++[n]:=by
 rw [lz] at h
 have hk:k.toNat<(bC b q).length :=by omega
 have hm:(bC b q)[k.toNat]∈bC b q:=List.getElem_mem hk
 refine⟨(bC b q)[k.toNat],?_,?_,?_⟩
 ·unfold bC jS at hm
  exact List.mem_range.1 (List.mem_filter.1 hm).1
 ·unfold nsI sqL
  rw [List.getD_eq_getElem?_getD,List.getElem?_map,List.getElem?_eq_getElem hk];rfl
 ·rw [tk h0 (by omega) 0,List.getD_eq_getElem?_getD,List.getElem?_eq_getElem hk];rfl
theorem oF (h0:0≤k) (h:k<(nsI b q).length):iT b q (k+1)=iT b q k++if 2≤(fY (ar b q) (!q.down) ((nsI b q).getD k.toNat (0,0)).1 ((nsI b q).getD k.toNat (0,0)).2).length then [((nsI b q).getD k.toNat (0,0),fY (ar b q) (!q.down) ((nsI b q).getD k.toNat (0,0)).1 ((nsI b q).getD k.toNat (0,0)).2)] else []:=by
 obtain⟨n,h1,h2,h3⟩:=JW h0 h
 rw [h2]
 unfold iT
 rw [h3]
 unfold cY sqL
 rw [List.map_append,List.map_append,List.filter_append]
 congr 1
 by_cases h4:2≤(fY (ar b q) (!q.down) (q.sr (n:Int)) (q.sc (n:Int))).length
 ·simp [h4]
 ·simp [h4]
theorem xy (h:VP b q):(ar b q).Fit :=⟨h.fit.lo,h.fit.hi,h.fit.prem,by show ((ca b q q.word.length).length : Int)=_;rw [fA];exact h.fit.cells⟩
theorem OS (hp:VP b q) (h0:0≤k) (h:k<(nsI b q).length):b.inB ((nsI b q).getD k.toNat (0,0)).1 ((nsI b q).getD k.toNat (0,0)).2=true:=by
 obtain⟨n,h1,h2, -⟩:=JW h0 h
 rw [h2]
 exact hp.on n h1
theorem OI (hp:VP b q) (h0:0≤k) (h:k<(nsI b q).length):Iy (ar b q) ((nsI b q).getD k.toNat (0,0)).1 ((nsI b q).getD k.toNat (0,0)).2:=by
 have h1:=wE hp.fit (OS hp h0 h)
 exact⟨xy hp,h1.1,h1.2⟩
theorem A6 (hp:VP b q):(iT b q k).length ≤12:=by
 have h1:=md b q ((bC b q).take k.toNat)
 have h2:=cF b q q.word.length
 have h3:=hp.hi
 have h4:((bC b q).take k.toNat).length ≤(bC b q).length :=by rw [List.length_take];omega
 have h5:(bC b q).length ≤q.word.length:=h2
 unfold iT
 omega
theorem Bv (hge:((nsI b q).length : Int)≤k):iT b q k=cY b q (bC b q):=by
 unfold iT
 rw [List.take_of_length_le (by rw [lz] at hge;omega)]
end
def fC (p:Pr):aa:=fsp (ac (aA aBd) (a1 (aA aPl))) (fun (b,q)=>VP b q) (fun (b,q)=>.tup [.rsl [.i .i64,.i .i64] (eC b q),.rsl [.r [.i .i64,.i .i64]] (eo b q)])
def uk (p:Pr):aa:=fsp (ac (aA aBd) (a1 (aA aPl))) (fun (b,q)=>VP b q) (fun (b,q)=>.tup [.osl 0,.osl 1]) (fun (b,q)=>[(0,.own [.i .i64,.i .i64] (eC b q) 211),(1,.own [.r [.i .i64,.i .i64]] (eo b q) 200)])
theorem tK:FOk Tryz.prog 261 (uk std):=by
 refine FOk.go (c:=cx std [(119,fJ std),(203,bD std),(304,mE std),(268,ej std),(365,jA std),(363,fj std)] [] 0) (ae (.cons qd (.cons eL (.cons yS (.cons nh (.cons ub (.cons o5 .nil)))))) .nil) mixed Tryz.func261 rfl rfl rfl (by kernel_rfl) ?_
 rintro ⟨b,q⟩ hp
 dsimp only at hp
 obtain⟨row,col,dn,wd⟩:=q
 obtain⟨q,hq⟩ : ∃x:Pl,x=⟨row,col,dn,wd⟩:=⟨_,rfl⟩
 cases dn
 all_goals
  refine⟨rfl,?_⟩
  unfold fJ bD mE ej jA fj
  obtain⟨H,hH⟩ : ∃H:Hd (Int×List (Int×Int)×List (List (Int×Int))),H=⟨fun (k,S,W)=>0≤k∧k≤(nsI b q).length ∧S=(iT b q k).map (·.1)∧W=(iT b q k).map (·.2),fun (k,S,W)=>((nsI b q).length - k).toNat,(· < ·)⟩:=⟨_,rfl⟩
  have hl:=hdl hH
  generalize hP:std=p,hB0:eC=B0,hB1:eo=B1,hB2:ar=B2,hB3:nsI=B3,hB4:npI=B4,hB5:fY=B5
  cbv
  repeat' first|refine fun (_:Unit)=>?_;cbv|refine Or.inr ⟨28,[],[.s 27 (.i .i64),.o 3 [.i .i64,.i .i64],.o 4 [.r [.i .i64,.i .i64]]],[.s 9,.s 10],[],H,rfl,hl,?_,fun ((k,S,W):Int×List (Int×Int)×List (List (Int×Int))) hk=>?_⟩<;>cbv|refine aI2 (fun h=>?_) (fun h=>?_)<;>cbv|refine aI2 ?_ ?_
 all_goals subst hP hB0 hB1 hB2 hB3 hB4 hB5 hH
 all_goals clear hl
 all_goals try dsimp only at hk
 all_goals try dsimp only
 all_goals try exact fin
 all_goals (have hdn:=congrArg Pl.down hq;dsimp only at hdn)
 all_goals (try simp only [eD,←hq] at *)
 all_goals try (obtain⟨q0,q1,rfl,rfl⟩:=hk)
 all_goals try (have q1:k≤((nsI b q).length : Int):=q1)
 all_goals try (have hlt:k<((nsI b q).length : Int):=ah ‹_›)
 all_goals (have hn:=cF b q q.word.length;have hw:=hp.hi;have hnl:=lz (b:=b) (q:=q);have hn:(bC b q).length ≤q.word.length:=hn)
 ·exact⟨Int.le_refl 0,Int.natCast_nonneg _,rfl,rfl⟩
 ·exact OI hp (by omega) (by omega)
 ·have:=A6 (k:=k) hp
  show (((iT b q k).map (·.1)).length : Int)+1≤_
  rw [List.length_map];omega
 ·have:=A6 (k:=k) hp
  show (((iT b q k).map (·.2)).length : Int)+1≤_
  rw [List.length_map];omega
 ·exact an (by show _≤k+1∧k+1≤_;omega)
 ·have h2:2≤(fY (ar b q) (!q.down) ((nsI b q).getD k.toNat (0,0)).1 ((nsI b q).getD k.toNat (0,0)).2).length :=by
   rw [hdn]
   have:=(show std.leI 2 (std.len (fY (ar b q) true ((nsI b q).getD k.toNat (0,0)).1 ((nsI b q).getD k.toNat (0,0)).2))=true by assumption)
   simp at this;simp;omega
  refine⟨by show 0≤k+1;omega,by show k+1≤((nsI b q).length : Int);omega,?_,?_⟩
  ·show (iT b q k).map (·.1)++[(nsI b q).getD k.toNat (0,0)]=(iT b q (k+1)).map (·.1)
   rw [oF (by omega) (by omega),if_pos h2];simp
  ·show (iT b q k).map (·.2)++[fY (ar b q) true ((nsI b q).getD k.toNat (0,0)).1 ((nsI b q).getD k.toNat (0,0)).2]=(iT b q (k+1)).map (·.2)
   rw [oF (by omega) (by omega),if_pos h2,hdn];simp
 ·exact an (by show _≤k+1∧k+1≤_;omega)
 ·have h2 : ¬2≤(fY (ar b q) (!q.down) ((nsI b q).getD k.toNat (0,0)).1 ((nsI b q).getD k.toNat (0,0)).2).length :=by
   rw [hdn]
   have:=(show std.leI 2 (std.len (fY (ar b q) true ((nsI b q).getD k.toNat (0,0)).1 ((nsI b q).getD k.toNat (0,0)).2))=false by assumption)
   simp at this;simp;omega
  refine⟨by show 0≤k+1;omega,by show k+1≤((nsI b q).length : Int);omega,?_,?_⟩
  ·show (iT b q k).map (·.1)=(iT b q (k+1)).map (·.1)
   rw [oF (by omega) (by omega),if_neg h2];simp
  ·show (iT b q k).map (·.2)=(iT b q (k+1)).map (·.2)
   rw [oF (by omega) (by omega),if_neg h2];simp
 ·rw [Bv (ao ‹_›)];rfl
 ·rw [Bv (ao ‹_›)];rfl
 ·exact⟨Int.le_refl 0,Int.natCast_nonneg _,rfl,rfl⟩
 ·exact OI hp (by omega) (by omega)
 ·have:=A6 (k:=k) hp
  show (((iT b q k).map (·.1)).length : Int)+1≤_
  rw [List.length_map];omega
 ·have:=A6 (k:=k) hp
  show (((iT b q k).map (·.2)).length : Int)+1≤_
  rw [List.length_map];omega
 ·exact an (by show _≤k+1∧k+1≤_;omega)
 ·have h2:2≤(fY (ar b q) (!q.down) ((nsI b q).getD k.toNat (0,0)).1 ((nsI b q).getD k.toNat (0,0)).2).length :=by
   rw [hdn]
   have:=(show std.leI 2 (std.len (fY (ar b q) false ((nsI b q).getD k.toNat (0,0)).1 ((nsI b q).getD k.toNat (0,0)).2))=true by assumption)
   simp at this;simp;omega
  refine⟨by show 0≤k+1;omega,by show k+1≤((nsI b q).length : Int);omega,?_,?_⟩
  ·show (iT b q k).map (·.1)++[(nsI b q).getD k.toNat (0,0)]=(iT b q (k+1)).map (·.1)
   rw [oF (by omega) (by omega),if_pos h2];simp
  ·show (iT b q k).map (·.2)++[fY (ar b q) false ((nsI b q).getD k.toNat (0,0)).1 ((nsI b q).getD k.toNat (0,0)).2]=(iT b q (k+1)).map (·.2)
   rw [oF (by omega) (by omega),if_pos h2,hdn];simp
 ·exact an (by show _≤k+1∧k+1≤_;omega)
 ·have h2 : ¬2≤(fY (ar b q) (!q.down) ((nsI b q).getD k.toNat (0,0)).1 ((nsI b q).getD k.toNat (0,0)).2).length :=by
   rw [hdn]
   have:=(show std.leI 2 (std.len (fY (ar b q) false ((nsI b q).getD k.toNat (0,0)).1 ((nsI b q).getD k.toNat (0,0)).2))=false by assumption)
   simp at this;simp;omega
  refine⟨by show 0≤k+1;omega,by show k+1≤((nsI b q).length : Int);omega,?_,?_⟩
  ·show (iT b q k).map (·.1)=(iT b q (k+1)).map (·.1)
   rw [oF (by omega) (by omega),if_neg h2];simp
  ·show (iT b q k).map (·.2)=(iT b q (k+1)).map (·.2)
   rw [oF (by omega) (by omega),if_neg h2];simp
 ·rw [Bv (ao ‹_›)];rfl
 ·rw [Bv (ao ‹_›)];rfl
theorem oY:FOk Tryz.prog 261 (fC std):=FOk.frz tK fun ⟨b,q⟩=>⟨by simp [deep,eK,AH.get],by simp [PV.idIn,cP]⟩
section
variable {b:Bd} {q:Pl} {k j:Int}
theorem uO {s:Str} (h:jn s=true) (k:Nat):(s.getD k 0).toNat < 128:=by
 rw [List.getD_eq_getElem?_getD]
 rcases Nat.lt_or_ge k s.length with hk | hk
 ·rw [List.getElem?_eq_getElem hk]
  have:=List.all_eq_true.1 h _ (List.getElem_mem hk)
  simpa using this
 ·rw [List.getElem?_eq_none hk];decide
theorem tb (hb:jn b.cells=true) (hq:jn q.word=true) : ∀k,jn (ca b q k)=true
 | 0=>hb
 | k+1=>by
   rw [xk]
   refine List.all_eq_true.2 fun c hc=>?_
   rcases List.mem_or_eq_of_mem_set hc with h | h
   ·exact List.all_eq_true.1 (tb hb hq k) c h
   ·subst h;simpa using uO hq k
theorem IK {M:Bd} (hM:jn M.cells=true) (l:List (Int×Int)):jn (sqW M l)=true:=by
 refine List.all_eq_true.2 fun c hc=>?_
 obtain⟨s,_,rfl⟩:=List.mem_map.1 hc
 unfold Bd.cell
 split
 ·simpa [Bd.at_] using uO hM _
 ·decide
theorem De {c:UInt8} (h:jc c=true):c.toNat<128:=by
 unfold jc aZ kw at h
 simp only [Bool.or_eq_true,Bool.and_eq_true,decide_eq_true_eq,beq_iff_eq] at h
 rcases h with (rfl | h) | h
 ·decide
 ·omega
 ·omega
theorem I0 (h:bdB b=true):jn b.cells=true:=by
 have hf:=bdB.fit h
 unfold bdB at h
 rw [kJ _ _ (by have:=hf.prem;have:=hf.cells;omega)] at h
 simp only [Bool.and_eq_true] at h
 refine List.all_eq_true.2 fun c hc=>?_
 have:=De (List.all_eq_true.1 h.2.2.2.2 c hc)
 simpa using this
theorem Dz {s:Str} (h:jn s=true):oM s=nu s:=by
 unfold oM
 rw [Lib.toLowerD_ascii _ (fun b hb=>by simpa using List.all_eq_true.1 h b hb)]
 exact sb s
theorem wt (hp:VP b q):(eo b q).length ≤12:=by
 unfold eo
 have h1:=md b q (bC b q)
 have h2:=cF b q q.word.length
 have h3:=hp.hi
 have h5:(bC b q).length ≤q.word.length:=h2
 rw [List.length_map];omega
theorem E0 (j:Nat):((eo b q).getD j []).length ≤32:=by
 rcases Nat.lt_or_ge j (eo b q).length with h | h
 ·rw [List.getD_eq_getElem?_getD,List.getElem?_eq_getElem h]
  obtain⟨x,h1,h2⟩:=List.mem_map.1 (List.getElem_mem h)
  show ((eo b q)[j]).length ≤32
  rw [←h2]
  exact oh b q _ x h1
 ·rw [List.getD_eq_getElem?_getD,List.getElem?_eq_none h];decide
def crW (b:Bd) (q:Pl) (k:Int):List Str:=oM q.word::((eo b q).take k.toNat).map fun l=>oM (sqW (ar b q) l)
def cH (b:Bd) (q:Pl) (k:Int):List (Int×Int):=(eo b q).getD k.toNat []
theorem Gv (hp:VP b q) (hge:((eo b q).length : Int)≤k):crW b q k=dC b q:=by
 have hM:jn (ar b q).cells =true:=tb (I0 hp.bd) (lS hp.lett) _
 unfold crW dC E6
 rw [List.take_of_length_le (by omega),Dz (lS hp.lett)]
 unfold eo
 rw [List.map_map]
 congr 1
 exact List.map_congr_left fun x _=>Dz (IK hM _)
theorem Ml (h0:0≤k) (h:k<(eo b q).length):crW b q (k+1)=crW b q k++[oM (sqW (ar b q) (cH b q k))]:=by
 unfold crW cH
 rw [tk h0 h [],List.map_append];rfl
theorem He (h:VP b q):(crW b q k).length ≤13:=by
 have:=wt h
 unfold crW
 rw [List.length_cons,List.length_map,List.length_take];omega
theorem Iu (h:VP b q):(dC b q).length ≤13:=by
 rw [←Gv h (Int.le_refl _)];exact He h
theorem NW {M:Bd} {l:List (Int×Int)} (h0:0≤k) (h:k<l.length):aq (sqW M (l.take k.toNat))++[ii M (l.getD k.toNat (0,0)).1 (l.getD k.toNat (0,0)).2]=aq (sqW M (l.take (k+1).toNat)):=by
 rw [tk h0 h (0,0)]
 unfold sqW ii aq
 rw [List.map_append,List.map_append];rfl
end
def jh (p:Pr):aa:=fsp (ac (aA aBd) (a1 (aA aPl))) (fun (b,q)=>VP b q) (fun (b,q)=>.rsl [.s] (dC b q))
def gP (p:Pr):aa:=fsp (ac (aA aBd) (a1 (aA aPl))) (fun (b,q)=>VP b q) (fun (b,q)=>.osl 0) (fun (b,q)=>[(0,.own [.s] (dC b q) 9)])
theorem kO:FOk Tryz.prog 205 (gP std):=by
 refine FOk.go (c:=cx std [(119,fJ std),(261,fC std),(260,rI std),(259,cj std)] [] 0) (ae (.cons qd (.cons oY (.cons E3 (.cons gF .nil)))) .nil) mixed Tryz.func205 rfl rfl rfl (by kernel_rfl) ?_
 rintro ⟨b,q⟩ hp
 dsimp only at hp
 refine⟨rfl,?_⟩
 unfold fJ fC rI cj
 obtain⟨H,hH⟩ : ∃H:Hd (Int×List (List UInt8)),H=⟨fun (k,W)=>0≤k∧k≤(eo b q).length ∧W=crW b q k,fun (k,W)=>((eo b q).length - k).toNat,(· < ·)⟩:=⟨_,rfl⟩
 have hl:=hdl hH
 obtain⟨H2,hH2⟩ : ∃H:(Int×List (List UInt8))→Hd (Int×List Int),H=fun (k,W)=>⟨fun (j,L)=>0≤j∧j≤(cH b q k).length ∧L=aq (sqW (ar b q) ((cH b q k).take j.toNat)),fun (j,L)=>((cH b q k).length - j).toNat,(· < ·)⟩:=⟨_,rfl⟩
 have hl2 : ∀x m n,(H2 x).lt m n→m<n:=by subst hH2;exact fun _ _ _ h=>h
 generalize hP:std=p,hB0:dC=B0,hB1:eC=B1,hB2:eo=B2,hB3:cH=B3,hB4:ar=B4,hB5:oM=B5,hB6:ii=B6
 cbv
 repeat' first|refine fun (_:Unit)=>?_;cbv|refine Or.inr ⟨30,[],[.s 29 (.i .i64),.o 3 [.s]],[.s 6],[],H,rfl,hl,?_,fun ((k,W):Int×List (List UInt8)) hk=>?_⟩<;>cbv|refine Or.inr ⟨37,[],[.s 36 (.i .i64),.o 4 [.i .u8]],[.s 11],[],H2 (k,W),rfl,hl2 _,?_,fun ((j,L):Int×List Int) hk2=>?_⟩<;>cbv|refine aI2 (fun h=>?_) (fun h=>?_)<;>cbv|refine aI2 ?_ ?_
 all_goals subst hP hB0 hB1 hB2 hB3 hB4 hB5 hB6 hH hH2
 all_goals clear hl
 all_goals try dsimp only at hk
 all_goals clear hl2
 all_goals try dsimp only at hk2
 all_goals try dsimp only
 all_goals try exact fin
 all_goals (try simp only [eD,fV] at *)
 all_goals try (obtain⟨q0,q1,rfl⟩:=hk)
 all_goals try (have q1:k≤((eo b q).length : Int):=q1)
 all_goals try (obtain⟨r0,r1,rfl⟩:=hk2)
 all_goals try (have r1:j≤((cH b q k).length : Int):=r1)
 all_goals have hcl:=wt hp
 all_goals try (have hcw:=He (k:=k) hp)
 all_goals try (have hsl:(cH b q k).length ≤32:=E0 k.toNat)
 ·show (q.word.length:Int)≤1073741824
  have:=hp.hi;omega
 ·exact⟨Int.le_refl 0,Int.natCast_nonneg _,rfl⟩
 ·exact⟨Int.le_refl 0,Int.natCast_nonneg _,rfl⟩
 ·have h:j<((cH b q k).length : Int):=ah ‹_›
  exact⟨r0,h⟩
 ·exact xy hp
 ·show ((aq (sqW (ar b q) ((cH b q k).take j.toNat))).length : Int)+1≤_
  rw [bu];unfold sqW;rw [List.length_map,List.length_take];omega
 ·have h:j<((cH b q k).length : Int):=ah ‹_›
  exact an (by show _≤j+1∧j+1≤_;omega)
 ·have h:j<((cH b q k).length : Int):=ah ‹_›
  exact⟨by show 0≤j+1;omega,by show j+1≤((cH b q k).length : Int);omega,NW r0 h⟩
 ·have h:j<((cH b q k).length : Int):=ah ‹_›
  show (((cH b q k).length : Int)-(j+1)).toNat < (((cH b q k).length : Int)-j).toNat
  omega
 ·show ((fZ (aq (sqW (ar b q) ((cH b q k).take j.toNat)))).length : Int)≤_
  rw [cJ];unfold sqW;rw [List.length_map,List.length_take];omega
 ·show ((crW b q k).length : Int)+1≤_
  omega
 ·have h:k<((eo b q).length : Int):=ah ‹_›
  exact an (by show _≤k+1∧k+1≤_;omega)
 ·have h:k<((eo b q).length : Int):=ah ‹_›
  have h2:((cH b q k).length : Int)≤j:=ao ‹_›
  refine⟨by show 0≤k+1;omega,by show k+1≤((eo b q).length : Int);omega,?_⟩
  show crW b q k++[oM (fZ (aq (sqW (ar b q) ((cH b q k).take j.toNat))))]=crW b q (k+1)
  have h3:(cH b q k).take j.toNat=cH b q k:=List.take_of_length_le (by omega)
  rw [Ml q0 h,cJ,h3]
 ·rw [Gv hp (ao ‹_›)]
theorem uv:FOk Tryz.prog 205 (jh std):=FOk.frz kO fun ⟨b,q⟩=>⟨by simp [deep,eK,AH.get],by simp [PV.idIn,cP]⟩
def aCl:Arg (List (List UInt8)):=⟨fun | .fn g [.rptr [.rsl [.s] ws] 0]=>if Nat.beq g 262 then some ws else none | _=>none,fun ws=>.fn 262 [.rptr [.rsl [.s] ws] 0],fun x a h=>by
 split at h
 ·split at h
  ·rename_i g _ hg
   cases h
   rw [Nat.eq_of_beq_eq_true hg]
  ·cases h
 ·cases h⟩
structure LxP (ws:List Str):Prop where
 inc:mR ws=true
 len:(ws.length:Int)≤1073741824
def iB (p:Pr):aa:=fsp (ac aS (a1 (aP wN))) (fun (s,ws)=>LxP ws) (fun (s,ws)=>.b (!hasB ws s))
theorem sH:FOk Tryz.prog 262 (iB std):=by
 refine FOk.go (c:=cx std [(152,ed std)] [] 0) (ae (.cons mL .nil) .nil) mixed Tryz.func262 rfl rfl rfl (by kernel_rfl) ?_
 rintro ⟨s,ws⟩ hp
 dsimp only at hp
 refine⟨rfl,?_⟩
 unfold ed
 generalize hP:std=p,hB0:hasB=B0,hB1:mR=B1
 cbv
 repeat' first|refine fun (_:Unit)=>?_;cbv|refine aI2 (fun h=>?_) (fun h=>?_)<;>cbv|refine aI2 ?_ ?_|refine Or.inl (fun (_:Unit)=>?_);cbv
 all_goals subst hP hB0 hB1
 all_goals try exact fin
 ·exact hp.len
theorem Cq (ws xs:List (List UInt8)):(bM ws xs).length ≤xs.length:=List.length_filter_le _ _
def d9 (p:Pr):aa:=fsp (ac aW (a1 aCl)) (fun (xs,ws)=>LxP ws∧p.ltM (p.len xs)) (fun (xs,ws)=>.osl 0) (fun (xs,ws)=>[(0,.own [.s] (bM ws xs) 9)])
theorem mO:FOk Tryz.prog 150 (d9 std):=by
 refine FOk.go (c:=cx std [(262,iB std)] [] 0) (ae (.cons sH .nil) .nil) mixed Tryz.func150 rfl rfl rfl (by kernel_rfl) ?_
 rintro ⟨xs,ws⟩ hp
 dsimp only at hp
 refine⟨rfl,?_⟩
 unfold iB
 obtain⟨H,hH⟩ : ∃H:Hd (Int×List (List UInt8)),H=⟨fun (k,L)=>0≤k∧k≤xs.length∧L=bM ws (xs.take k.toNat),fun (k,L)=>(xs.length-k).toNat,(· < ·)⟩:=⟨_,rfl⟩
 have hl:=hdl hH
 generalize hP:std=p,hB0:bM=B0,hB1:hasB=B1
 cbv
 repeat' first|refine fun (_:Unit)=>?_;cbv|refine Or.inr ⟨12,[],[.s 11 (.i .i64),.o 0 [.s]],[.s 5],[],H,rfl,hl,?_,fun ((k,L):Int×List (List UInt8)) hk=>?_⟩<;>cbv|refine aI2 (fun h=>?_) (fun h=>?_)<;>cbv|refine aI2 ?_ ?_
 all_goals subst hP hB0 hB1 hH
 all_goals clear hl
 all_goals try dsimp only at hk
 all_goals try dsimp only
 all_goals try exact fin
 ·exact⟨Int.le_refl 0,Int.natCast_nonneg _,rfl⟩
 all_goals obtain⟨q0,q1,rfl⟩:=hk
 all_goals have h2:=Cq ws (xs.take k.toNat)
 all_goals rw [List.length_take] at h2
 all_goals have hl:=hp.2
 all_goals try (have h1:k<xs.length:=ah ‹_›)
 ·show ((bM ws (xs.take k.toNat)).length : Int)+1≤274877906944
  have : (xs.length:Int)≤274877906944:=hl
  omega
 ·refine⟨by show 0≤k+1;omega,by show k+1≤(xs.length:Int);omega,?_⟩
  have h6:(!hasB ws (xs.getD k.toNat []))=true:=by assumption
  show bM ws (xs.take k.toNat)++[xs.getD k.toNat []]=bM ws (xs.take (k+1).toNat)
  unfold bM
  rw [kK q0 h1,if_pos h6]
 ·refine⟨by show 0≤k+1;omega,by show k+1≤(xs.length:Int);omega,?_⟩
  have h6:(!hasB ws (xs.getD k.toNat []))=false:=by assumption
  show bM ws (xs.take k.toNat)=bM ws (xs.take (k+1).toNat)
  unfold bM
  rw [kK q0 h1,h6];simp
 ·rw [bZ (ao ‹_›)]
def iV (p:Pr):aa:=fsp (ac (aA aBd) (ac (aA wN) (a1 (aA aPl)))) (fun (b,ws,q)=>VP b q∧LxP ws) (fun (b,ws,q)=>.osl 0) (fun (b,ws,q)=>[(0,.own [.s] (bM ws (dC b q)) 9)])
theorem tw:FOk Tryz.prog 206 (iV std):=by
 refine FOk.go (c:=cx std [(205,jh std),(150,d9 std)] [] 0) (ae (.cons uv (.cons mO .nil)) .nil) mixed Tryz.func206 rfl rfl rfl (by kernel_rfl) ?_
 rintro ⟨b,ws,q⟩ hp
 dsimp only at hp
 refine⟨rfl,?_⟩
 unfold jh d9
 generalize hP:std=p,hB0:bM=B0,hB1:dC=B1
 cbv
 repeat' first|refine fun (_:Unit)=>?_;cbv|refine aI2 (fun h=>?_) (fun h=>?_)<;>cbv|refine aI2 ?_ ?_|refine Or.inl (fun (_:Unit)=>?_);cbv
 all_goals subst hP hB0 hB1
 all_goals try exact fin
 all_goals simp only [eD,fV] at *
 ·have:=Iu hp.1
  show ((dC b q).length : Int)≤_
  omega
def cX (p:Pr):aa:=fsp (a1 (aA aBd)) (fun b=>b.Fit) (fun b=>.s (ag b))
theorem jZ:FOk Tryz.prog 90 (cX std):=by
 refine FOk.go (c:=cx std [(187,rL std)] [] 0) (ae (.cons Fq .nil) .nil) mixed Tryz.func90 rfl rfl rfl (by kernel_rfl) ?_
 rintro b hp
 refine⟨rfl,?_⟩
 unfold rL
 generalize hP:std=p,hB0:ag=B0,hB1:Po=B1
 cbv
 repeat' first|refine fun (_:Unit)=>?_;cbv|refine aI2 (fun h=>?_) (fun h=>?_)<;>cbv|refine aI2 ?_ ?_|refine Or.inl (fun (_:Unit)=>?_);cbv
 all_goals subst hP hB0 hB1
 all_goals try exact fin
 ·show (b.cells.length:Int)≤1073741824
  have h1:=hp.cells;have h2:=hp.lo;have h3:=hp.hi
  have h4:b.size*b.size≤15*b.size:=Int.mul_le_mul_of_nonneg_right h3 (by omega)
  omega
 ·exact vx b.cells
def ur (b:Bd):Bool:=(ag b).isEmpty
def jl (p:Pr):aa:=fsp (a1 (aA aBd)) (fun b=>b.Fit) (fun b=>.b (ur b))
theorem uh:FOk Tryz.prog 82 (jl std):=by
 refine FOk.go (c:=cx std [(90,cX std)] [] 0) (ae (.cons jZ .nil) .nil) mixed Tryz.func82 rfl rfl rfl (by kernel_rfl) ?_
 rintro b hp
 refine⟨rfl,?_⟩
 unfold cX
 generalize hP:std=p,hB0:ag=B0,hB1:ur=B1
 cbv
 repeat' first|refine fun (_:Unit)=>?_;cbv|refine aI2 (fun h=>?_) (fun h=>?_)<;>cbv|refine aI2 ?_ ?_|refine Or.inl (fun (_:Unit)=>?_);cbv
 all_goals subst hP hB0 hB1
 all_goals try exact fin
 ·show ((ag b)==[])=ur b
  unfold ur
  cases ag b<;>rfl
theorem QQ {b:Bd} {q:Pl} (h:VP b q):StP (cb (aD b q)):=by
 refine⟨sa b q,?_⟩
 have h1:=jq ((aD b q).map aX)
 have h2:((aD b q).map aX).length ≤12:=by
  have hn:=cF b q q.word.length
  have hw:=h.hi
  rw [List.length_map]
  unfold aD bC
  rw [List.length_map];omega
 have h3:=p7 (c:=ay ((aD b q).map aX)) (m:=12) (fun j=>by have:=h1.hi j;omega) 27
 show (cO (ay ((aD b q).map aX)) 27).length ≤_
 omega
end Ax
end Go.Proofs.YtjjonmhpgkahoaaGreatDoor
