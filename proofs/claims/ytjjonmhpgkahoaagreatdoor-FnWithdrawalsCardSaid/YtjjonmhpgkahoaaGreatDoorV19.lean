/-
  Crossings, words that a play forms, wrong words, whether it touches the board, its code, of the impl package.
  Conditions: none.
-/
import Derived.Test.YtjjonmhpgkahoaaGreatDoorV18
import Derived.MapKept
set_option linter.unusedSimpArgs false
set_option linter.unusedVariables false
namespace Go.Proofs.YtjjonmhpgkahoaaGreatDoor
namespace Ax
set_option maxRecDepth 100000
set_option maxHeartbeats 2000000
def crTo (b:Bd) (q:Pl) (k:Int):List ((Int×Int)×List (Int×Int)):=crossP b q ((newL b q).take k.toNat)
def crS1 (b:Bd) (q:Pl):List (Int×Int):=(crossP b q (newL b q)).map (·.1)
def crS2 (b:Bd) (q:Pl):List (List (Int×Int)):=(crossP b q (newL b q)).map (·.2)
section
variable {b:Bd} {q:Pl} {k:Int}
theorem ns_len:(nsI b q).length =(newL b q).length :=by simp [nsI,sqL]
theorem ns_at (h0:0≤k) (h:k<(nsI b q).length) : ∃n:Nat,n<q.word.length∧(nsI b q).getD k.toNat (0,0)=(q.sr n,q.sc n)∧(newL b q).take (k+1).toNat =(newL b q).take k.toNat++[n]:=by
 rw [ns_len] at h
 have hk:k.toNat<(newL b q).length :=by omega
 have hm:(newL b q)[k.toNat]∈newL b q:=List.getElem_mem hk
 refine⟨(newL b q)[k.toNat],?_,?_,?_⟩
 ·unfold newL newTo at hm
  exact List.mem_range.1 (List.mem_filter.1 hm).1
 ·unfold nsI sqL
  rw [List.getD_eq_getElem?_getD,List.getElem?_map,List.getElem?_eq_getElem hk];rfl
 ·rw [tk h0 (by omega) 0,List.getD_eq_getElem?_getD,List.getElem?_eq_getElem hk];rfl
theorem cr_suc (h0:0≤k) (h:k<(nsI b q).length):crTo b q (k+1)=crTo b q k++if 2≤(seqL (madeB b q) (!q.down) ((nsI b q).getD k.toNat (0,0)).1 ((nsI b q).getD k.toNat (0,0)).2).length then [((nsI b q).getD k.toNat (0,0),seqL (madeB b q) (!q.down) ((nsI b q).getD k.toNat (0,0)).1 ((nsI b q).getD k.toNat (0,0)).2)] else []:=by
 obtain⟨n,h1,h2,h3⟩:=ns_at h0 h
 rw [h2]
 unfold crTo
 rw [h3]
 unfold crossP sqL
 rw [List.map_append,List.map_append,List.filter_append]
 congr 1
 by_cases h4:2≤(seqL (madeB b q) (!q.down) (q.sr (n:Int)) (q.sc (n:Int))).length
 ·simp [h4]
 ·simp [h4]
theorem made_fit (h:VP b q):(madeB b q).Fit :=⟨h.fit.lo,h.fit.hi,h.fit.prem,by show ((madeTo b q q.word.length).length : Int)=_;rw [made_len];exact h.fit.cells⟩
theorem ns_in (hp:VP b q) (h0:0≤k) (h:k<(nsI b q).length):b.inB ((nsI b q).getD k.toNat (0,0)).1 ((nsI b q).getD k.toNat (0,0)).2=true:=by
 obtain⟨n,h1,h2, -⟩:=ns_at h0 h
 rw [h2]
 exact hp.on n h1
theorem ns_sq (hp:VP b q) (h0:0≤k) (h:k<(nsI b q).length):SqIn (madeB b q) ((nsI b q).getD k.toNat (0,0)).1 ((nsI b q).getD k.toNat (0,0)).2:=by
 have h1:=Fit_in hp.fit (ns_in hp h0 h)
 exact⟨made_fit hp,h1.1,h1.2⟩
theorem cr_len (hp:VP b q):(crTo b q k).length ≤12:=by
 have h1:=crossP_length b q ((newL b q).take k.toNat)
 have h2:=newTo_length b q q.word.length
 have h3:=hp.hi
 have h4:((newL b q).take k.toNat).length ≤(newL b q).length :=by rw [List.length_take];omega
 have h5:(newL b q).length ≤q.word.length:=h2
 unfold crTo
 omega
theorem cr_all (hge:((nsI b q).length : Int)≤k):crTo b q k=crossP b q (newL b q):=by
 unfold crTo
 rw [List.take_of_length_le (by rw [ns_len] at hge;omega)]
end
def sp_i_crossings (p:Pr):FSpec:=fsp (ac (aA aBd) (a1 (aA aPl))) (fun (b,q)=>VP b q) (fun (b,q)=>.tup [.rsl [.i .i64,.i .i64] (crS1 b q),.rsl [.r [.i .i64,.i .i64]] (crS2 b q)])
def sp_i_crossings_o (p:Pr):FSpec:=fsp (ac (aA aBd) (a1 (aA aPl))) (fun (b,q)=>VP b q) (fun (b,q)=>.tup [.osl 0,.osl 1]) (fun (b,q)=>[(0,.own [.i .i64,.i .i64] (crS1 b q) 211),(1,.own [.r [.i .i64,.i .i64]] (crS2 b q) 200)])
theorem ok_i_crossings_o:FOk Tryz.prog 261 (sp_i_crossings_o std):=by
 refine FOk.go (c:=cx std [(119,sp_i_made std),(203,sp_i_newSquares std),(304,sp_i_sequence std),(268,sp_i_directionOf std),(365,sp_i_right_cross std),(363,sp_i_downwards_cross std)] [] 0) (cx_ok (.cons ok_i_made (.cons ok_i_newSquares (.cons ok_i_sequence (.cons ok_i_directionOf (.cons ok_i_right_cross (.cons ok_i_downwards_cross .nil)))))) .nil) mixed Tryz.func261 rfl rfl rfl (by kernel_rfl) ?_
 rintro ⟨b,q⟩ hp
 dsimp only at hp
 obtain⟨row,col,dn,wd⟩:=q
 obtain⟨q,hq⟩ : ∃x:Pl,x=⟨row,col,dn,wd⟩:=⟨_,rfl⟩
 cases dn
 all_goals
  refine⟨rfl,?_⟩
  unfold sp_i_made sp_i_newSquares sp_i_sequence sp_i_directionOf sp_i_right_cross sp_i_downwards_cross
  obtain⟨H,hH⟩ : ∃H:Hd (Int×List (Int×Int)×List (List (Int×Int))),H=⟨fun (k,S,W)=>0≤k∧k≤(nsI b q).length ∧S=(crTo b q k).map (·.1)∧W=(crTo b q k).map (·.2),fun (k,S,W)=>((nsI b q).length - k).toNat,(· < ·)⟩:=⟨_,rfl⟩
  have hl:=hdl hH
  generalize hP:std=p,hB0:crS1=B0,hB1:crS2=B1,hB2:madeB=B2,hB3:nsI=B3,hB4:npI=B4,hB5:seqL=B5
  cbv
  repeat' first|refine fun (_:Unit)=>?_;cbv|refine Or.inr ⟨28,[],[.s 27 (.i .i64),.o 3 [.i .i64,.i .i64],.o 4 [.r [.i .i64,.i .i64]]],[.s 9,.s 10],[],H,rfl,hl,?_,fun ((k,S,W):Int×List (Int×Int)×List (List (Int×Int))) hk=>?_⟩<;>cbv|refine aI2 (fun h=>?_) (fun h=>?_)<;>cbv|refine aI2 ?_ ?_
 all_goals subst hP hB0 hB1 hB2 hB3 hB4 hB5 hH
 all_goals clear hl
 all_goals try dsimp only at hk
 all_goals try dsimp only
 all_goals try exact fin
 all_goals (have hdn:=congrArg Pl.down hq;dsimp only at hdn)
 all_goals (try simp only [eta_bd,←hq] at *)
 all_goals try (obtain⟨q0,q1,rfl,rfl⟩:=hk)
 all_goals try (have q1:k≤((nsI b q).length : Int):=q1)
 all_goals try (have hlt:k<((nsI b q).length : Int):=lt_of ‹_›)
 all_goals (have hn:=newTo_length b q q.word.length;have hw:=hp.hi;have hnl:=ns_len (b:=b) (q:=q);have hn:(newL b q).length ≤q.word.length:=hn)
 ·exact⟨Int.le_refl 0,Int.natCast_nonneg _,rfl,rfl⟩
 ·exact ns_sq hp (by omega) (by omega)
 ·have:=cr_len (k:=k) hp
  show (((crTo b q k).map (·.1)).length : Int)+1≤_
  rw [List.length_map];omega
 ·have:=cr_len (k:=k) hp
  show (((crTo b q k).map (·.2)).length : Int)+1≤_
  rw [List.length_map];omega
 ·exact in64 (by show _≤k+1∧k+1≤_;omega)
 ·have h2:2≤(seqL (madeB b q) (!q.down) ((nsI b q).getD k.toNat (0,0)).1 ((nsI b q).getD k.toNat (0,0)).2).length :=by
   rw [hdn]
   have:=(show std.leI 2 (std.len (seqL (madeB b q) true ((nsI b q).getD k.toNat (0,0)).1 ((nsI b q).getD k.toNat (0,0)).2))=true by assumption)
   simp at this;simp;omega
  refine⟨by show 0≤k+1;omega,by show k+1≤((nsI b q).length : Int);omega,?_,?_⟩
  ·show (crTo b q k).map (·.1)++[(nsI b q).getD k.toNat (0,0)]=(crTo b q (k+1)).map (·.1)
   rw [cr_suc (by omega) (by omega),if_pos h2];simp
  ·show (crTo b q k).map (·.2)++[seqL (madeB b q) true ((nsI b q).getD k.toNat (0,0)).1 ((nsI b q).getD k.toNat (0,0)).2]=(crTo b q (k+1)).map (·.2)
   rw [cr_suc (by omega) (by omega),if_pos h2,hdn];simp
 ·exact in64 (by show _≤k+1∧k+1≤_;omega)
 ·have h2 : ¬2≤(seqL (madeB b q) (!q.down) ((nsI b q).getD k.toNat (0,0)).1 ((nsI b q).getD k.toNat (0,0)).2).length :=by
   rw [hdn]
   have:=(show std.leI 2 (std.len (seqL (madeB b q) true ((nsI b q).getD k.toNat (0,0)).1 ((nsI b q).getD k.toNat (0,0)).2))=false by assumption)
   simp at this;simp;omega
  refine⟨by show 0≤k+1;omega,by show k+1≤((nsI b q).length : Int);omega,?_,?_⟩
  ·show (crTo b q k).map (·.1)=(crTo b q (k+1)).map (·.1)
   rw [cr_suc (by omega) (by omega),if_neg h2];simp
  ·show (crTo b q k).map (·.2)=(crTo b q (k+1)).map (·.2)
   rw [cr_suc (by omega) (by omega),if_neg h2];simp
 ·rw [cr_all (ge_of ‹_›)];rfl
 ·rw [cr_all (ge_of ‹_›)];rfl
 ·exact⟨Int.le_refl 0,Int.natCast_nonneg _,rfl,rfl⟩
 ·exact ns_sq hp (by omega) (by omega)
 ·have:=cr_len (k:=k) hp
  show (((crTo b q k).map (·.1)).length : Int)+1≤_
  rw [List.length_map];omega
 ·have:=cr_len (k:=k) hp
  show (((crTo b q k).map (·.2)).length : Int)+1≤_
  rw [List.length_map];omega
 ·exact in64 (by show _≤k+1∧k+1≤_;omega)
 ·have h2:2≤(seqL (madeB b q) (!q.down) ((nsI b q).getD k.toNat (0,0)).1 ((nsI b q).getD k.toNat (0,0)).2).length :=by
   rw [hdn]
   have:=(show std.leI 2 (std.len (seqL (madeB b q) false ((nsI b q).getD k.toNat (0,0)).1 ((nsI b q).getD k.toNat (0,0)).2))=true by assumption)
   simp at this;simp;omega
  refine⟨by show 0≤k+1;omega,by show k+1≤((nsI b q).length : Int);omega,?_,?_⟩
  ·show (crTo b q k).map (·.1)++[(nsI b q).getD k.toNat (0,0)]=(crTo b q (k+1)).map (·.1)
   rw [cr_suc (by omega) (by omega),if_pos h2];simp
  ·show (crTo b q k).map (·.2)++[seqL (madeB b q) false ((nsI b q).getD k.toNat (0,0)).1 ((nsI b q).getD k.toNat (0,0)).2]=(crTo b q (k+1)).map (·.2)
   rw [cr_suc (by omega) (by omega),if_pos h2,hdn];simp
 ·exact in64 (by show _≤k+1∧k+1≤_;omega)
 ·have h2 : ¬2≤(seqL (madeB b q) (!q.down) ((nsI b q).getD k.toNat (0,0)).1 ((nsI b q).getD k.toNat (0,0)).2).length :=by
   rw [hdn]
   have:=(show std.leI 2 (std.len (seqL (madeB b q) false ((nsI b q).getD k.toNat (0,0)).1 ((nsI b q).getD k.toNat (0,0)).2))=false by assumption)
   simp at this;simp;omega
  refine⟨by show 0≤k+1;omega,by show k+1≤((nsI b q).length : Int);omega,?_,?_⟩
  ·show (crTo b q k).map (·.1)=(crTo b q (k+1)).map (·.1)
   rw [cr_suc (by omega) (by omega),if_neg h2];simp
  ·show (crTo b q k).map (·.2)=(crTo b q (k+1)).map (·.2)
   rw [cr_suc (by omega) (by omega),if_neg h2];simp
 ·rw [cr_all (ge_of ‹_›)];rfl
 ·rw [cr_all (ge_of ‹_›)];rfl
theorem ok_i_crossings:FOk Tryz.prog 261 (sp_i_crossings std):=FOk.frz ok_i_crossings_o fun ⟨b,q⟩=>⟨by simp [deep,deeps,AH.get],by simp [PV.idIn,idInL]⟩
section
variable {b:Bd} {q:Pl} {k j:Int}
theorem asciiB_getD {s:Str} (h:asciiB s=true) (k:Nat):(s.getD k 0).toNat < 128:=by
 rw [List.getD_eq_getElem?_getD]
 rcases Nat.lt_or_ge k s.length with hk | hk
 ·rw [List.getElem?_eq_getElem hk]
  have:=List.all_eq_true.1 h _ (List.getElem_mem hk)
  simpa using this
 ·rw [List.getElem?_eq_none hk];decide
theorem madeTo_ascii (hb:asciiB b.cells=true) (hq:asciiB q.word=true) : ∀k,asciiB (madeTo b q k)=true
 | 0=>hb
 | k+1=>by
   rw [made_suc]
   refine List.all_eq_true.2 fun c hc=>?_
   rcases List.mem_or_eq_of_mem_set hc with h | h
   ·exact List.all_eq_true.1 (madeTo_ascii hb hq k) c h
   ·subst h;simpa using asciiB_getD hq k
theorem sqW_ascii {M:Bd} (hM:asciiB M.cells=true) (l:List (Int×Int)):asciiB (sqW M l)=true:=by
 refine List.all_eq_true.2 fun c hc=>?_
 obtain⟨s,_,rfl⟩:=List.mem_map.1 hc
 unfold Bd.cell
 split
 ·simpa [Bd.at_] using asciiB_getD hM _
 ·decide
theorem cellB_ascii {c:UInt8} (h:cellB c=true):c.toNat<128:=by
 unfold cellB smallB capB at h
 simp only [Bool.or_eq_true,Bool.and_eq_true,decide_eq_true_eq,beq_iff_eq] at h
 rcases h with (rfl | h) | h
 ·decide
 ·omega
 ·omega
theorem bd_ascii (h:bdB b=true):asciiB b.cells=true:=by
 have hf:=bdB.fit h
 unfold bdB at h
 rw [okFrom_eq _ _ (by have:=hf.prem;have:=hf.cells;omega)] at h
 simp only [Bool.and_eq_true] at h
 refine List.all_eq_true.2 fun c hc=>?_
 have:=cellB_ascii (List.all_eq_true.1 h.2.2.2.2 c hc)
 simpa using this
theorem lowU_asc {s:Str} (h:asciiB s=true):lowU s=lowS s:=by
 unfold lowU
 rw [Lib.toLowerD_ascii _ (fun b hb=>by simpa using List.all_eq_true.1 h b hb)]
 exact toLowerA_low s
theorem cr2_len (hp:VP b q):(crS2 b q).length ≤12:=by
 unfold crS2
 have h1:=crossP_length b q (newL b q)
 have h2:=newTo_length b q q.word.length
 have h3:=hp.hi
 have h5:(newL b q).length ≤q.word.length:=h2
 rw [List.length_map];omega
theorem cr2_at (j:Nat):((crS2 b q).getD j []).length ≤32:=by
 rcases Nat.lt_or_ge j (crS2 b q).length with h | h
 ·rw [List.getD_eq_getElem?_getD,List.getElem?_eq_getElem h]
  obtain⟨x,h1,h2⟩:=List.mem_map.1 (List.getElem_mem h)
  show ((crS2 b q)[j]).length ≤32
  rw [←h2]
  exact crossP_seq b q _ x h1
 ·rw [List.getD_eq_getElem?_getD,List.getElem?_eq_none h];decide
def crW (b:Bd) (q:Pl) (k:Int):List Str:=lowU q.word::((crS2 b q).take k.toNat).map fun l=>lowU (sqW (madeB b q) l)
def crSq (b:Bd) (q:Pl) (k:Int):List (Int×Int):=(crS2 b q).getD k.toNat []
theorem crW_all (hp:VP b q) (hge:((crS2 b q).length : Int)≤k):crW b q k=wordsI b q:=by
 have hM:asciiB (madeB b q).cells =true:=madeTo_ascii (bd_ascii hp.bd) (lettB_ascii hp.lett) _
 unfold crW wordsI crossW
 rw [List.take_of_length_le (by omega),lowU_asc (lettB_ascii hp.lett)]
 unfold crS2
 rw [List.map_map]
 congr 1
 exact List.map_congr_left fun x _=>lowU_asc (sqW_ascii hM _)
theorem crW_suc (h0:0≤k) (h:k<(crS2 b q).length):crW b q (k+1)=crW b q k++[lowU (sqW (madeB b q) (crSq b q k))]:=by
 unfold crW crSq
 rw [tk h0 h [],List.map_append];rfl
theorem crW_len (h:VP b q):(crW b q k).length ≤13:=by
 have:=cr2_len h
 unfold crW
 rw [List.length_cons,List.length_map,List.length_take];omega
theorem words_len (h:VP b q):(wordsI b q).length ≤13:=by
 rw [←crW_all h (Int.le_refl _)];exact crW_len h
theorem sqW_suc {M:Bd} {l:List (Int×Int)} (h0:0≤k) (h:k<l.length):toBl (sqW M (l.take k.toNat))++[celV M (l.getD k.toNat (0,0)).1 (l.getD k.toNat (0,0)).2]=toBl (sqW M (l.take (k+1).toNat)):=by
 rw [tk h0 h (0,0)]
 unfold sqW celV toBl
 rw [List.map_append,List.map_append];rfl
end
def sp_i_wordsFormed (p:Pr):FSpec:=fsp (ac (aA aBd) (a1 (aA aPl))) (fun (b,q)=>VP b q) (fun (b,q)=>.rsl [.s] (wordsI b q))
def sp_i_wordsFormed_o (p:Pr):FSpec:=fsp (ac (aA aBd) (a1 (aA aPl))) (fun (b,q)=>VP b q) (fun (b,q)=>.osl 0) (fun (b,q)=>[(0,.own [.s] (wordsI b q) 9)])
theorem ok_i_wordsFormed_o:FOk Tryz.prog 205 (sp_i_wordsFormed_o std):=by
 refine FOk.go (c:=cx std [(119,sp_i_made std),(261,sp_i_crossings std),(260,sp_i_lower std),(259,sp_i_Board_cell std)] [] 0) (cx_ok (.cons ok_i_made (.cons ok_i_crossings (.cons ok_i_lower (.cons ok_i_Board_cell .nil)))) .nil) mixed Tryz.func205 rfl rfl rfl (by kernel_rfl) ?_
 rintro ⟨b,q⟩ hp
 dsimp only at hp
 refine⟨rfl,?_⟩
 unfold sp_i_made sp_i_crossings sp_i_lower sp_i_Board_cell
 obtain⟨H,hH⟩ : ∃H:Hd (Int×List (List UInt8)),H=⟨fun (k,W)=>0≤k∧k≤(crS2 b q).length ∧W=crW b q k,fun (k,W)=>((crS2 b q).length - k).toNat,(· < ·)⟩:=⟨_,rfl⟩
 have hl:=hdl hH
 obtain⟨H2,hH2⟩ : ∃H:(Int×List (List UInt8))→Hd (Int×List Int),H=fun (k,W)=>⟨fun (j,L)=>0≤j∧j≤(crSq b q k).length ∧L=toBl (sqW (madeB b q) ((crSq b q k).take j.toNat)),fun (j,L)=>((crSq b q k).length - j).toNat,(· < ·)⟩:=⟨_,rfl⟩
 have hl2 : ∀x m n,(H2 x).lt m n→m<n:=by subst hH2;exact fun _ _ _ h=>h
 generalize hP:std=p,hB0:wordsI=B0,hB1:crS1=B1,hB2:crS2=B2,hB3:crSq=B3,hB4:madeB=B4,hB5:lowU=B5,hB6:celV=B6
 cbv
 repeat' first|refine fun (_:Unit)=>?_;cbv|refine Or.inr ⟨30,[],[.s 29 (.i .i64),.o 3 [.s]],[.s 6],[],H,rfl,hl,?_,fun ((k,W):Int×List (List UInt8)) hk=>?_⟩<;>cbv|refine Or.inr ⟨37,[],[.s 36 (.i .i64),.o 4 [.i .u8]],[.s 11],[],H2 (k,W),rfl,hl2 _,?_,fun ((j,L):Int×List Int) hk2=>?_⟩<;>cbv|refine aI2 (fun h=>?_) (fun h=>?_)<;>cbv|refine aI2 ?_ ?_
 all_goals subst hP hB0 hB1 hB2 hB3 hB4 hB5 hB6 hH hH2
 all_goals clear hl
 all_goals try dsimp only at hk
 all_goals clear hl2
 all_goals try dsimp only at hk2
 all_goals try dsimp only
 all_goals try exact fin
 all_goals (try simp only [eta_bd,eta_pl] at *)
 all_goals try (obtain⟨q0,q1,rfl⟩:=hk)
 all_goals try (have q1:k≤((crS2 b q).length : Int):=q1)
 all_goals try (obtain⟨r0,r1,rfl⟩:=hk2)
 all_goals try (have r1:j≤((crSq b q k).length : Int):=r1)
 all_goals have hcl:=cr2_len hp
 all_goals try (have hcw:=crW_len (k:=k) hp)
 all_goals try (have hsl:(crSq b q k).length ≤32:=cr2_at k.toNat)
 ·show (q.word.length:Int)≤1073741824
  have:=hp.hi;omega
 ·exact⟨Int.le_refl 0,Int.natCast_nonneg _,rfl⟩
 ·exact⟨Int.le_refl 0,Int.natCast_nonneg _,rfl⟩
 ·have h:j<((crSq b q k).length : Int):=lt_of ‹_›
  exact⟨r0,h⟩
 ·exact made_fit hp
 ·show ((toBl (sqW (madeB b q) ((crSq b q k).take j.toNat))).length : Int)+1≤_
  rw [toB_len];unfold sqW;rw [List.length_map,List.length_take];omega
 ·have h:j<((crSq b q k).length : Int):=lt_of ‹_›
  exact in64 (by show _≤j+1∧j+1≤_;omega)
 ·have h:j<((crSq b q k).length : Int):=lt_of ‹_›
  exact⟨by show 0≤j+1;omega,by show j+1≤((crSq b q k).length : Int);omega,sqW_suc r0 h⟩
 ·have h:j<((crSq b q k).length : Int):=lt_of ‹_›
  show (((crSq b q k).length : Int)-(j+1)).toNat < (((crSq b q k).length : Int)-j).toNat
  omega
 ·show ((toSl (toBl (sqW (madeB b q) ((crSq b q k).take j.toNat)))).length : Int)≤_
  rw [toS_toB];unfold sqW;rw [List.length_map,List.length_take];omega
 ·show ((crW b q k).length : Int)+1≤_
  omega
 ·have h:k<((crS2 b q).length : Int):=lt_of ‹_›
  exact in64 (by show _≤k+1∧k+1≤_;omega)
 ·have h:k<((crS2 b q).length : Int):=lt_of ‹_›
  have h2:((crSq b q k).length : Int)≤j:=ge_of ‹_›
  refine⟨by show 0≤k+1;omega,by show k+1≤((crS2 b q).length : Int);omega,?_⟩
  show crW b q k++[lowU (toSl (toBl (sqW (madeB b q) ((crSq b q k).take j.toNat))))]=crW b q (k+1)
  have h3:(crSq b q k).take j.toNat=crSq b q k:=List.take_of_length_le (by omega)
  rw [crW_suc q0 h,toS_toB,h3]
 ·rw [crW_all hp (ge_of ‹_›)]
theorem ok_i_wordsFormed:FOk Tryz.prog 205 (sp_i_wordsFormed std):=FOk.frz ok_i_wordsFormed_o fun ⟨b,q⟩=>⟨by simp [deep,deeps,AH.get],by simp [PV.idIn,idInL]⟩
def aCl:Arg (List (List UInt8)):=⟨fun | .fn g [.rptr [.rsl [.s] ws] 0]=>if Nat.beq g 262 then some ws else none | _=>none,fun ws=>.fn 262 [.rptr [.rsl [.s] ws] 0],fun x a h=>by
 split at h
 ·split at h
  ·rename_i g _ hg
   cases h
   rw [Nat.eq_of_beq_eq_true hg]
  ·cases h
 ·cases h⟩
structure LxP (ws:List Str):Prop where
 inc:incB ws=true
 len:(ws.length:Int)≤1073741824
def sp_i_wrongWords_1 (p:Pr):FSpec:=fsp (ac aS (a1 (aP aLex))) (fun (s,ws)=>LxP ws) (fun (s,ws)=>.b (!hasB ws s))
theorem ok_i_wrongWords_1:FOk Tryz.prog 262 (sp_i_wrongWords_1 std):=by
 refine FOk.go (c:=cx std [(152,sp_i_Lexicon_has std)] [] 0) (cx_ok (.cons ok_i_Lexicon_has .nil) .nil) mixed Tryz.func262 rfl rfl rfl (by kernel_rfl) ?_
 rintro ⟨s,ws⟩ hp
 dsimp only at hp
 refine⟨rfl,?_⟩
 unfold sp_i_Lexicon_has
 generalize hP:std=p,hB0:hasB=B0,hB1:incB=B1
 cbv
 repeat' first|refine fun (_:Unit)=>?_;cbv|refine aI2 (fun h=>?_) (fun h=>?_)<;>cbv|refine aI2 ?_ ?_|refine Or.inl (fun (_:Unit)=>?_);cbv
 all_goals subst hP hB0 hB1
 all_goals try exact fin
 ·exact hp.len
theorem wrong_le (ws xs:List (List UInt8)):(wrongS ws xs).length ≤xs.length:=List.length_filter_le _ _
def sp_i_selected_string__o (p:Pr):FSpec:=fsp (ac aW (a1 aCl)) (fun (xs,ws)=>LxP ws∧p.ltM (p.len xs)) (fun (xs,ws)=>.osl 0) (fun (xs,ws)=>[(0,.own [.s] (wrongS ws xs) 9)])
theorem ok_i_selected_string__o:FOk Tryz.prog 150 (sp_i_selected_string__o std):=by
 refine FOk.go (c:=cx std [(262,sp_i_wrongWords_1 std)] [] 0) (cx_ok (.cons ok_i_wrongWords_1 .nil) .nil) mixed Tryz.func150 rfl rfl rfl (by kernel_rfl) ?_
 rintro ⟨xs,ws⟩ hp
 dsimp only at hp
 refine⟨rfl,?_⟩
 unfold sp_i_wrongWords_1
 obtain⟨H,hH⟩ : ∃H:Hd (Int×List (List UInt8)),H=⟨fun (k,L)=>0≤k∧k≤xs.length∧L=wrongS ws (xs.take k.toNat),fun (k,L)=>(xs.length-k).toNat,(· < ·)⟩:=⟨_,rfl⟩
 have hl:=hdl hH
 generalize hP:std=p,hB0:wrongS=B0,hB1:hasB=B1
 cbv
 repeat' first|refine fun (_:Unit)=>?_;cbv|refine Or.inr ⟨12,[],[.s 11 (.i .i64),.o 0 [.s]],[.s 5],[],H,rfl,hl,?_,fun ((k,L):Int×List (List UInt8)) hk=>?_⟩<;>cbv|refine aI2 (fun h=>?_) (fun h=>?_)<;>cbv|refine aI2 ?_ ?_
 all_goals subst hP hB0 hB1 hH
 all_goals clear hl
 all_goals try dsimp only at hk
 all_goals try dsimp only
 all_goals try exact fin
 ·exact⟨Int.le_refl 0,Int.natCast_nonneg _,rfl⟩
 all_goals obtain⟨q0,q1,rfl⟩:=hk
 all_goals have h2:=wrong_le ws (xs.take k.toNat)
 all_goals rw [List.length_take] at h2
 all_goals have hl:=hp.2
 all_goals try (have h1:k<xs.length:=lt_of ‹_›)
 ·show ((wrongS ws (xs.take k.toNat)).length : Int)+1≤274877906944
  have : (xs.length:Int)≤274877906944:=hl
  omega
 ·refine⟨by show 0≤k+1;omega,by show k+1≤(xs.length:Int);omega,?_⟩
  have h6:(!hasB ws (xs.getD k.toNat []))=true:=by assumption
  show wrongS ws (xs.take k.toNat)++[xs.getD k.toNat []]=wrongS ws (xs.take (k+1).toNat)
  unfold wrongS
  rw [filt_step q0 h1,if_pos h6]
 ·refine⟨by show 0≤k+1;omega,by show k+1≤(xs.length:Int);omega,?_⟩
  have h6:(!hasB ws (xs.getD k.toNat []))=false:=by assumption
  show wrongS ws (xs.take k.toNat)=wrongS ws (xs.take (k+1).toNat)
  unfold wrongS
  rw [filt_step q0 h1,h6];simp
 ·rw [tk_all (ge_of ‹_›)]
def sp_i_wrongWords (p:Pr):FSpec:=fsp (ac (aA aBd) (ac (aA aLex) (a1 (aA aPl)))) (fun (b,ws,q)=>VP b q∧LxP ws) (fun (b,ws,q)=>.rsl [.s] (wrongS ws (wordsI b q)))
def sp_i_wrongWords_o (p:Pr):FSpec:=fsp (ac (aA aBd) (ac (aA aLex) (a1 (aA aPl)))) (fun (b,ws,q)=>VP b q∧LxP ws) (fun (b,ws,q)=>.osl 0) (fun (b,ws,q)=>[(0,.own [.s] (wrongS ws (wordsI b q)) 9)])
theorem ok_i_wrongWords_o:FOk Tryz.prog 206 (sp_i_wrongWords_o std):=by
 refine FOk.go (c:=cx std [(205,sp_i_wordsFormed std),(150,sp_i_selected_string__o std)] [] 0) (cx_ok (.cons ok_i_wordsFormed (.cons ok_i_selected_string__o .nil)) .nil) mixed Tryz.func206 rfl rfl rfl (by kernel_rfl) ?_
 rintro ⟨b,ws,q⟩ hp
 dsimp only at hp
 refine⟨rfl,?_⟩
 unfold sp_i_wordsFormed sp_i_selected_string__o
 generalize hP:std=p,hB0:wrongS=B0,hB1:wordsI=B1
 cbv
 repeat' first|refine fun (_:Unit)=>?_;cbv|refine aI2 (fun h=>?_) (fun h=>?_)<;>cbv|refine aI2 ?_ ?_|refine Or.inl (fun (_:Unit)=>?_);cbv
 all_goals subst hP hB0 hB1
 all_goals try exact fin
 all_goals simp only [eta_bd,eta_pl] at *
 ·have:=words_len hp.1
  show ((wordsI b q).length : Int)≤_
  omega
theorem ok_i_wrongWords:FOk Tryz.prog 206 (sp_i_wrongWords std):=FOk.frz ok_i_wrongWords_o fun ⟨b,ws,q⟩=>⟨by simp [deep,deeps,AH.get],by simp [PV.idIn,idInL]⟩
def sp_i_Board_lettersOn (p:Pr):FSpec:=fsp (a1 (aA aBd)) (fun b=>b.Fit) (fun b=>.s (lettersS b))
theorem ok_i_Board_lettersOn:FOk Tryz.prog 90 (sp_i_Board_lettersOn std):=by
 refine FOk.go (c:=cx std [(187,sp_replace std)] [] 0) (cx_ok (.cons ok_replace .nil) .nil) mixed Tryz.func90 rfl rfl rfl (by kernel_rfl) ?_
 rintro b hp
 refine⟨rfl,?_⟩
 unfold sp_replace
 generalize hP:std=p,hB0:lettersS=B0,hB1:replS=B1
 cbv
 repeat' first|refine fun (_:Unit)=>?_;cbv|refine aI2 (fun h=>?_) (fun h=>?_)<;>cbv|refine aI2 ?_ ?_|refine Or.inl (fun (_:Unit)=>?_);cbv
 all_goals subst hP hB0 hB1
 all_goals try exact fin
 ·show (b.cells.length:Int)≤1073741824
  have h1:=hp.cells;have h2:=hp.lo;have h3:=hp.hi
  have h4:b.size*b.size≤15*b.size:=Int.mul_le_mul_of_nonneg_right h3 (by omega)
  omega
 ·exact replaceAll_dots b.cells
def emptyB (b:Bd):Bool:=(lettersS b).isEmpty
def sp_i_Board_blank (p:Pr):FSpec:=fsp (a1 (aA aBd)) (fun b=>b.Fit) (fun b=>.b (emptyB b))
theorem ok_i_Board_blank:FOk Tryz.prog 82 (sp_i_Board_blank std):=by
 refine FOk.go (c:=cx std [(90,sp_i_Board_lettersOn std)] [] 0) (cx_ok (.cons ok_i_Board_lettersOn .nil) .nil) mixed Tryz.func82 rfl rfl rfl (by kernel_rfl) ?_
 rintro b hp
 refine⟨rfl,?_⟩
 unfold sp_i_Board_lettersOn
 generalize hP:std=p,hB0:lettersS=B0,hB1:emptyB=B1
 cbv
 repeat' first|refine fun (_:Unit)=>?_;cbv|refine aI2 (fun h=>?_) (fun h=>?_)<;>cbv|refine aI2 ?_ ?_|refine Or.inl (fun (_:Unit)=>?_);cbv
 all_goals subst hP hB0 hB1
 all_goals try exact fin
 ·show ((lettersS b)==[])=emptyB b
  unfold emptyB
  cases lettersS b<;>rfl
theorem mid_of {n:Int} (h:5≤n):std.quo n 2=n/2:=by show Int.tdiv n 2=_;exact Int.tdiv_eq_ediv_of_nonneg (by omega)
theorem sq_is {s:Int×Int} {m:Int} {x:Bool} (h:std.and (std.eqI s.1 m) (std.eqI s.2 m)=x):(s==(m,m))=x:=by
 rw [←h];rfl
theorem touch_no {b:Bd} {q:Pl} (h:emptyB b=false):touchI b q=(decide ((newL b q).length < q.word.length)||decide (1<(wordsI b q).length)):=by
 unfold touchI;rw [if_neg (by rw [show (lettersS b).isEmpty =false from h];simp)]
theorem touch_yes {b:Bd} {q:Pl} (h:emptyB b=true):touchI b q=(nsI b q).any (fun s=>s==(b.size/2,b.size/2)):=by
 unfold touchI;rw [if_pos (show (lettersS b).isEmpty =true from h)];rfl
theorem any_at {α:Type} {L:List α} {f:α→Bool} {k:Int} (h0:0≤k) (h:k<L.length) (d:α):(L.drop k.toNat).any f=(f (L.getD k.toNat d)||(L.drop (k+1).toNat).any f):=by
 rw [dc h0 h d,List.any_cons]
theorem std_le {m n:Nat} : std.ltI (m:Int) (n:Int)=decide (m<n):=by
 show decide ((m:Int)<(n:Int))=_
 simp
def sp_i_touches (p:Pr):FSpec:=fsp (ac (aA aBd) (a1 (aA aPl))) (fun (b,q)=>VP b q) (fun (b,q)=>.b (touchI b q))
theorem ok_i_touches:FOk Tryz.prog 204 (sp_i_touches std):=by
 refine FOk.go (c:=cx std [(203,sp_i_newSquares std),(82,sp_i_Board_blank std),(205,sp_i_wordsFormed std)] [] 0) (cx_ok (.cons ok_i_newSquares (.cons ok_i_Board_blank (.cons ok_i_wordsFormed .nil))) .nil) mixed Tryz.func204 rfl rfl rfl (by kernel_rfl) ?_
 rintro ⟨b,q⟩ hp
 dsimp only at hp
 refine⟨rfl,?_⟩
 unfold sp_i_newSquares sp_i_Board_blank sp_i_wordsFormed
 obtain⟨H,hH⟩ : ∃H:Hd (Int),H=⟨fun k=>0≤k∧k≤(nsI b q).length ∧touchI b q=((nsI b q).drop k.toNat).any (fun s=>s==(b.size/2,b.size/2)),fun k=>((nsI b q).length - k).toNat,(· < ·)⟩:=⟨_,rfl⟩
 have hl:=hdl hH
 generalize hP:std=p,hB0:touchI=B0,hB1:nsI=B1,hB2:wordsI=B2,hB3:emptyB=B3
 cbv
 repeat' first|refine fun (_:Unit)=>?_;cbv|refine Or.inr ⟨42,[],[.s 41 (.i .i64)],[],[],H,rfl,hl,?_,fun (k:Int) hk=>?_⟩<;>cbv|refine aI2 (fun h=>?_) (fun h=>?_)<;>cbv|refine aI2 ?_ ?_
 all_goals subst hP hB0 hB1 hB2 hB3 hH
 all_goals clear hl
 all_goals try dsimp only at hk
 all_goals try dsimp only
 all_goals try exact fin
 all_goals try simp only [eta_bd,eta_pl] at *
 all_goals (have hwl:=words_len hp;have hn:=newTo_length b q q.word.length;have hw:=hp.hi;have hnl:=ns_len (b:=b) (q:=q);have hn:(newL b q).length ≤q.word.length:=hn)
 all_goals (have hz1:=hp.fit.lo;have hz2:=hp.fit.hi)
 all_goals (have hd:b.size/2≤b.size∧0≤b.size/2:=by omega)
 all_goals try (obtain⟨q0,q1,q2⟩:=hk;have q1:k≤((nsI b q).length : Int):=q1)
 all_goals try (have hlt:k<((nsI b q).length : Int):=lt_of ‹_›)
 ·have h1:decide ((nsI b q).length < q.word.length)=false:=std_le.symm.trans ‹_›
  rw [touch_no ‹_›,←hnl,h1,Bool.false_or]
  show decide ((1:Int)<((wordsI b q).length : Int))=_
  rw [Bool.eq_iff_iff,decide_eq_true_eq,decide_eq_true_eq];omega
 ·have h1:decide ((nsI b q).length < q.word.length)=true:=std_le.symm.trans ‹_›
  rw [touch_no ‹_›,←hnl,h1,Bool.true_or]
 ·have hm:=mid_of hz1
  exact in64 (by show _≤std.quo b.size 2∧std.quo b.size 2≤_;omega)
 ·have hm:=mid_of hz1
  exact in64 (by show _≤std.quo b.size 2∧std.quo b.size 2≤_;omega)
 ·refine⟨Int.le_refl 0,Int.natCast_nonneg _,?_⟩
  rw [touch_yes ‹_›];rfl
 ·have h1:=sq_is (s:=(nsI b q).getD k.toNat (0,0)) ‹_›
  rw [mid_of hz1] at h1
  rw [q2,any_at q0 hlt (0,0),h1,Bool.true_or]
 ·exact in64 (by show _≤k+1∧k+1≤_;omega)
 ·have h1:=sq_is (s:=(nsI b q).getD k.toNat (0,0)) ‹_›
  rw [mid_of hz1] at h1
  refine⟨by show 0≤k+1;omega,by show k+1≤((nsI b q).length : Int);omega,?_⟩
  rw [q2,any_at q0 hlt (0,0),h1,Bool.false_or];rfl
 ·have h1:((nsI b q).length : Int)≤k:=ge_of ‹_›
  rw [q2,List.drop_of_length_le (by omega)];rfl
theorem tp_stp {b:Bd} {q:Pl} (h:VP b q):StP (tilesP (placedI b q)):=by
 refine⟨placed_tiles b q,?_⟩
 have h1:=counts_ct ((placedI b q).map blankC)
 have h2:((placedI b q).map blankC).length ≤12:=by
  have hn:=newTo_length b q q.word.length
  have hw:=h.hi
  rw [List.length_map]
  unfold placedI newL
  rw [List.length_map];omega
 have h3:=pileTo_bd (c:=countsL ((placedI b q).map blankC)) (m:=12) (fun j=>by have:=h1.hi j;omega) 27
 show (pileTo (countsL ((placedI b q).map blankC)) 27).length ≤_
 omega
theorem std_l1 {α:Type} (L:List α):std.ltI 1 (std.len L)=decide (1<L.length):=std_le (m:=1)
theorem std_l0 {α:Type} (L:List α):std.ltI 0 (std.len L)=decide (0<L.length):=std_le (m:=0)
theorem std_e1 (b:Bd) (q:Pl):std.eqI (std.len (nsI b q)) 1=decide ((newL b q).length =1):=by
 rw [←ns_len]
 show decide _=_
 rw [Bool.eq_iff_iff,decide_eq_true_eq,decide_eq_true_eq]
 show ((nsI b q).length : Int)=1↔_
 omega
structure LgP (b:Bd) (ws:List (List UInt8)) (rack:List UInt8) (q:Pl):Prop where
 bd:bdB b=true
 lx:LxP ws
 rk:StP rack
 wl:(q.word.length:Int)≤1073741824
def sp_i_legal (p:Pr):FSpec:=fsp (ac (aA aBd) (ac (aA aLex) (ac aS (a1 (aA aPl))))) (fun (b,ws,rack,q)=>LgP b ws rack q) (fun (b,ws,rack,q)=>.i .i64 (codeI b ws rack q))
theorem ok_i_legal:FOk Tryz.prog 112 (sp_i_legal std):=by
 refine FOk.go (c:=cx std [(202,sp_i_Play_validOn std),(117,sp_i_placedTiles std),(116,sp_i_without std),(203,sp_i_newSquares std),(204,sp_i_touches std),(205,sp_i_wordsFormed std),(206,sp_i_wrongWords std)] [] 0) (cx_ok (.cons ok_i_Play_validOn (.cons ok_i_placedTiles (.cons ok_i_without (.cons ok_i_newSquares (.cons ok_i_touches (.cons ok_i_wordsFormed (.cons ok_i_wrongWords .nil))))))) .nil) mixed Tryz.func112 rfl rfl rfl (by kernel_rfl) ?_
 rintro ⟨b,ws,rack,q⟩ hp
 dsimp only at hp
 refine⟨rfl,?_⟩
 unfold sp_i_Play_validOn sp_i_placedTiles sp_i_without sp_i_newSquares sp_i_touches sp_i_wordsFormed sp_i_wrongWords
 generalize hP:std=p,hB0:codeI=B0,hB1:validI=B1,hB2:placedI=B2,hB3:tilesP=B3,hB4:withoutS=B4,hB5:withoutB=B5,hB6:touchI=B6,hB7:nsI=B7,hB8:wordsI=B8,hB9:wrongS=B9
 cbv
 repeat' first|refine fun (_:Unit)=>?_;cbv|refine aI2 (fun h=>?_) (fun h=>?_)<;>cbv|refine aI2 ?_ ?_|refine Or.inl (fun (_:Unit)=>?_);cbv
 all_goals subst hP hB0 hB1 hB2 hB3 hB4 hB5 hB6 hB7 hB8 hB9
 all_goals try exact fin
 all_goals try simp only [eta_bd,eta_pl] at *
 all_goals try simp only [std_l1,std_l0,std_e1] at *
 all_goals first
  | exact VP.of hp.bd ‹_›
  | exact bdB.fit hp.bd
  | exact hp.rk
  | exact tp_stp (VP.of hp.bd ‹_›)
  | exact⟨VP.of hp.bd ‹_›,hp.lx⟩
  | exact hp.lx
  | exact hp.wl
  | (unfold codeI;simp [*];done)
  | (unfold codeI;rw [if_pos ‹_›,if_pos ‹_›,if_pos ‹_›,if_neg (by simp [*]),if_pos (of_decide_eq_true ‹_›)])
  | (unfold codeI;simp [*] at *;simp [*];done)
  | skip
end Ax
end Go.Proofs.YtjjonmhpgkahoaaGreatDoor
namespace Go.Proofs.YtjjonmhpgkahoaaGreatDoor
open Go.RowKit
set_option maxHeartbeats 2000000
set_option maxRecDepth 100000
def facF2:Value:=.func (.func 323) #[] #[]
def facF3:Value:=.func (.func 324) #[] #[]
def facO:Obj:=.map #[⟨.int .u8 50,facF2,0⟩,⟨.int .u8 51,facF3,1⟩] 2
theorem fac2_any (x:Int) (w:World) (h0:0≤x) (h1:x≤20) :
 Calls Tryz.prog 323 #[.int .i64 x] w fun e w'=>e=.returned (.int .i64 (2*x))∧w=w':=by
 go_enter Tryz.func323,Tryz.ntmps323
 go_wp2_with (fail)
 go_ret
 exact⟨rfl,rfl⟩
theorem fac3_any (x:Int) (w:World) (h0:0≤x) (h1:x≤20) :
 Calls Tryz.prog 324 #[.int .i64 x] w fun e w'=>e=.returned (.int .i64 (3*x))∧w=w':=by
 go_enter Tryz.func324,Tryz.ntmps324
 go_wp2_with (fail)
 go_ret
 exact⟨rfl,rfl⟩
theorem alloc_set (w:World) (o o':Obj):({ w.alloc o with heap:=(w.alloc o).heap.setIfInBounds w.heap.size o' } : World)=w.alloc o':=by
 have e:(w.alloc o).heap.setIfInBounds w.heap.size o'=(w.alloc o').heap :=by
  show (w.heap.push o).setIfInBounds w.heap.size o'=w.heap.push o'
  apply Array.ext
  ·simp
  ·intro i h1 h2
   rw [Array.getElem_setIfInBounds (by simpa using h1),Array.getElem_push,Array.getElem_push]
   simp at h1 h2
   split<;>split<;>first | rfl | omega
 rw [e]
 rfl
theorem run_ins (w:World) (es:Array MapEntry) (clock:Nat) (k:Int) (v:Value) (hn:Instr.findNow (.int .u8) (.int .u8 k) es.toList 0=some none) :
 (Instr.mapUpdate 286 (.map (some w.heap.size)) (.int .u8 k) v).run Tryz.prog (w.alloc (.map es clock))=.ok () (w.alloc (.map (es.push ⟨.int .u8 k,v,clock⟩) (clock+1))):=by
 have hg:(w.alloc (.map es clock)).heap[w.heap.size]? =some (.map es clock):=(MapKept.heap_alloc w _).1
 have hm:=Tryz.underlying286
 have hd:=Tryz.underlying5
 have hk:MapKept.IsKey (.int .u8) (.int .u8 k):=rfl
 simp [Instr.mapUpdate,run_underlying hm,MapKept.run_getObj_map hg,MapKept.run_checkKey hd hk,MapKept.run_findKey hd hn,MapKept.run_setObj_map _ hg,Result.andThen]
 exact alloc_set w _ _
theorem letterFactors_any (w:World) :
 Calls Tryz.prog 305 #[] w fun e w'=>e=.returned (.map (some w.heap.size))∧w'=w.alloc facO:=by
 have m0:=run_makeMap (P:=Tryz.prog) 286 w
 have m1:=run_ins w #[] 0 50 facF2 rfl
 have m2:=run_ins w #[⟨.int .u8 50,facF2,0⟩] 1 51 facF3 rfl
 simp only [facF2,facF3] at m1 m2
 go_enter Tryz.func305,Tryz.ntmps305
 go_wp2_with (fail)
 go_ret
 exact⟨rfl,rfl⟩
theorem run_look (w:World) (g:Nat) (k:Int) (i:Nat) (v:Value) (hg:w.heap[g]? =some facO) (hn:Instr.findNow (.int .u8) (.int .u8 k) [⟨.int .u8 50,facF2,0⟩,⟨.int .u8 51,facF3,1⟩] 0=some (some (i,v))) :
 (Instr.lookup 286 (.map (some g)) (.int .u8 k) true).run Tryz.prog w=.ok (.tuple #[v,.bool true]) w:=by
 have hm:=Tryz.underlying286
 have hd:=Tryz.underlying5
 have hk:MapKept.IsKey (.int .u8) (.int .u8 k):=rfl
 simp [Instr.lookup,run_underlying hm,MapKept.run_getObj_map hg,MapKept.run_checkKey hd hk,MapKept.run_findKey hd hn,Result.andThen]
theorem run_look0 (w:World) (g:Nat) (k:Int) (hg:w.heap[g]? =some facO) (hn:Instr.findNow (.int .u8) (.int .u8 k) [⟨.int .u8 50,facF2,0⟩,⟨.int .u8 51,facF3,1⟩] 0=some none) :
 (Instr.lookup 286 (.map (some g)) (.int .u8 k) true).run Tryz.prog w=.ok (.tuple #[.nilFunc,.bool false]) w:=by
 have hm:=Tryz.underlying286
 have hd:=Tryz.underlying5
 have hk:MapKept.IsKey (.int .u8) (.int .u8 k):=rfl
 have hz:(zeroValue 92).run Tryz.prog w=.ok .nilFunc w:=rfl
 simp [Instr.lookup,run_underlying hm,MapKept.run_getObj_map hg,MapKept.run_checkKey hd hk,MapKept.run_findKey hd hn,Result.andThen,hz]
theorem letterScore_k (x0 x1 x2 x3:Value) (l p:UInt8) (V:Int) (v0:0≤V) (v1:V≤20) (w:World) (kv : ∀W,Below w.heap.size w W→Calls Tryz.prog 252 #[.agg #[x0,x1,x2,x3],bv l] W fun e w'=>e=.returned (.int .i64 V)∧Below W.heap.size W w') :
 Calls Tryz.prog 267 #[.agg #[x0,x1,x2,x3],bv l,bv p] w fun e w'=>e=.returned (.int .i64 (ltF p*V))∧Below w.heap.size w w':=by
 have hbW:=(Below.refl w.heap.size w).alloc (Nat.le_refl _) (.cells #[x0,x1,x2,x3] 26)
 have hB:=Blk.new w 26 #[x0,x1,x2,x3]
 obtain⟨W,hW⟩ : ∃W,W=w.alloc (.cells #[x0,x1,x2,x3] 26):=⟨_,rfl⟩
 rw [←hW] at hbW hB
 have kvW:=kv W hbW
 clear kv
 have d0:W.cell? ⟨w.heap.size,0,none⟩=some x0:=hB.cell 0
 have d1:W.cell? ⟨w.heap.size,1,none⟩=some x1:=hB.cell 1
 have d2:W.cell? ⟨w.heap.size,2,none⟩=some x2:=hB.cell 2
 have d3:W.cell? ⟨w.heap.size,3,none⟩=some x3:=hB.cell 3
 have hlk : ∀w1:World,(w1.alloc facO).heap[w1.heap.size]? =some facO:=fun w1=>(MapKept.heap_alloc w1 _).1
 by_cases h2:p=50
 ·subst h2
  have hres:ltF 50*V=2*V:=rfl
  rw [hres]
  have hlk : ∀w1:World,(Instr.lookup 286 (.map (some w1.heap.size)) (bv 50) true).run Tryz.prog (w1.alloc facO)=.ok (.tuple #[facF2,.bool true]) (w1.alloc facO):=fun w1=>run_look (w1.alloc facO) w1.heap.size 50 0 facF2 (hlk w1) rfl
  simp only [facF2] at hlk
  go_enter Tryz.func267,Tryz.ntmps267
  go_wp2_with (first
   | (go_at_call 252;rw [←hW];refine kvW.mono ?_;rintro e w1 ⟨rfl,hb1⟩)
   | (go_at_call 305;refine (letterFactors_any _).mono ?_;rintro e w2 ⟨rfl,rfl⟩;have hlk:=hlk w1)
   | (go_at_call 323;refine (fac2_any V _ v0 v1).mono ?_;rintro e w3 ⟨rfl,rfl⟩))
  go_ret
  exact⟨rfl,hbW.trans ((hb1.alloc hb1.size _).mono hbW.size)⟩
 ·by_cases h3:p=51
  ·subst h3
   have hres:ltF 51*V=3*V:=rfl
   rw [hres]
   have hlk : ∀w1:World,(Instr.lookup 286 (.map (some w1.heap.size)) (bv 51) true).run Tryz.prog (w1.alloc facO)=.ok (.tuple #[facF3,.bool true]) (w1.alloc facO):=fun w1=>run_look (w1.alloc facO) w1.heap.size 51 1 facF3 (hlk w1) rfl
   simp only [facF3] at hlk
   go_enter Tryz.func267,Tryz.ntmps267
   go_wp2_with (first
    | (go_at_call 252;rw [←hW];refine kvW.mono ?_;rintro e w1 ⟨rfl,hb1⟩)
    | (go_at_call 305;refine (letterFactors_any _).mono ?_;rintro e w2 ⟨rfl,rfl⟩;have hlk:=hlk w1)
    | (go_at_call 324;refine (fac3_any V _ v0 v1).mono ?_;rintro e w3 ⟨rfl,rfl⟩))
   go_ret
   exact⟨rfl,hbW.trans ((hb1.alloc hb1.size _).mono hbW.size)⟩
  ·have hres:ltF p*V=V:=by
    have e2:(p==50)=false:=by simpa using h2
    have e3:(p==51)=false:=by simpa using h3
    unfold ltF
    rw [e2,e3]
    simp
   rw [hres]
   have q2:((p.toNat:Int)==50)=false:=by
    have : ¬p.toNat=50:=fun e=>h2 (UInt8.toNat_inj.1 e)
    simp;omega
   have q3:((p.toNat:Int)==51)=false:=by
    have : ¬p.toNat=51:=fun e=>h3 (UInt8.toNat_inj.1 e)
    simp;omega
   have hn:Instr.findNow (.int .u8) (.int .u8 (p.toNat:Int)) [⟨.int .u8 50,facF2,0⟩,⟨.int .u8 51,facF3,1⟩] 0=some none:=by
    simp [Instr.findNow,Instr.sameNow,q2,q3]
   have hlk : ∀w1:World,(Instr.lookup 286 (.map (some w1.heap.size)) (bv p) true).run Tryz.prog (w1.alloc facO)=.ok (.tuple #[.nilFunc,.bool false]) (w1.alloc facO):=fun w1=>run_look0 (w1.alloc facO) w1.heap.size (p.toNat:Int) (hlk w1) hn
   clear hn q2 q3
   go_enter Tryz.func267,Tryz.ntmps267
   go_wp2_with (first
    | (go_at_call 252;rw [←hW];refine kvW.mono ?_;rintro e w1 ⟨rfl,hb1⟩)
    | (go_at_call 305;refine (letterFactors_any _).mono ?_;rintro e w2 ⟨rfl,rfl⟩;have hlk:=hlk w1))
   go_ret
   exact⟨rfl,hbW.trans ((hb1.alloc hb1.size _).mono hbW.size)⟩
namespace Ax
def lscI (t:TS) (l p:Int):Int:=ltF (u8 p)*valT t (u8 l)
def sp_lsc (p:Pr):FSpec:=fsp (ac (aA aTs) (ac aC (a1 aC))) (fun (t,l,q)=>p.inK .u8 l∧p.inK .u8 q∧TsOk t) (fun (t,l,q)=>.i .i64 (lscI t l q))
theorem ok_lsc:FOk Tryz.prog 267 (sp_lsc std):=by
 refine FOk.of_calls Tryz.func267 rfl rfl fun ⟨t,l,q⟩ hp w e vals hz hl=>?_
 obtain⟨hl8,hq8,ht⟩:std.inK .u8 l∧std.inK .u8 q∧TsOk t:=hp
 obtain⟨u,v,x,hv,h1,h2,h3⟩:=Rs3 hl
 rw [arr_of hv]
 have h2':v=bv (u8 l):=by unfold R at h2;rw [h2];unfold bv;rw [u8_nat hl8]
 have h3':x=bv (u8 q):=by unfold R at h3;rw [h3];unfold bv;rw [u8_nat hq8]
 have h1':=h1
 change R w e (.agg (tsK t (.rsl [.i .i64] t.values) (.rsl [.i .i64] t.counts))) u at h1'
 unfold R at h1'
 obtain⟨vs,hu,h4⟩:=h1'
 obtain⟨x0,x1,x2,x3,hvs⟩ : ∃x0 x1 x2 x3,vs=#[x0,x1,x2,x3]:=by
  have h5:=Rs_length h4
  match hvs:vs.toList,h5 with
  | [a,b,c,d],_=>exact⟨a,b,c,d,arr_of hvs⟩
 subst hvs hu
 have kv : ∀W,Below w.heap.size w W→Calls Tryz.prog 252 #[.agg #[x0,x1,x2,x3],bv (u8 l)] W fun en w'=>en=.returned (.int .i64 (valT t (u8 l)))∧Below W.heap.size W w':=fun W hW=>by
  have hs:Same e.fz w W:=fun b hb=>hW.block b (hz.lt b hb)
  have hzW:FzW W e.fz:=⟨fun b hb=>Nat.lt_of_lt_of_le (hz.lt b hb) hW.size,hz.gl.chg (M:=fun _=>False) (Chg.of_below hW) fun b hb=>⟨hz.lt b hb,id⟩⟩
  have hr:=ok_i_valueOf.run [.agg (tsK t (.rsl [.i .i64] t.values) (.rsl [.i .i64] t.counts)),.i .u8 l] ⟨[std.inK .u8 l∧TsOk t],.i .i64 (valT t (u8 l)),[]⟩ rfl (fun p hp=>by rw [List.mem_singleton.1 hp];exact⟨hl8,ht⟩) W e #[.agg #[x0,x1,x2,x3],bv (u8 l)] hzW (by
   have:=Rs_mono hs (.refl e) [.agg (tsK t (.rsl [.i .i64] t.values) (.rsl [.i .i64] t.counts)),.i .u8 l] [.agg #[x0,x1,x2,x3],v] (by unfold Rs;exact⟨_,_,rfl,h1,by unfold Rs;exact⟨_,_,rfl,h2,by unfold Rs;rfl⟩⟩)
   rw [h2'] at this
   exact this)
  refine hr.mono ?_
  rintro en w' ⟨y,e',rfl,hP⟩
  have hy:y=.int .i64 (valT t (u8 l)):=by have:=hP.val;unfold R at this;exact this
  subst hy
  exact⟨rfl,⟨hP.chg.os,hP.chg.tape,hP.chg.output,hP.chg.size,fun b hb=>hP.chg.block b hb fun ⟨k,hk,_⟩=>hk.elim⟩⟩
 rw [h2',h3']
 refine (letterScore_k x0 x1 x2 x3 (u8 l) (u8 q) (valT t (u8 l)) (ht.lo _) (ht.hi _) w kv).mono ?_
 rintro en w' ⟨rfl,hb⟩
 exact⟨_,rfl,fun w e=>by unfold R;rfl,hb⟩
end Ax
end Go.Proofs.YtjjonmhpgkahoaaGreatDoor
namespace Go.Proofs.YtjjonmhpgkahoaaGreatDoor
namespace Ax
set_option maxRecDepth 100000
set_option maxHeartbeats 2000000
def aR8:Arg (List Int):=⟨fun | .rsl [.i .u8] n=>some n | _=>none,.rsl [.i .u8],fun x a h=>by split at h<;>cases h;rfl⟩
structure WfP (L:List Int):Prop where
 len:L.length≤15
 by' : ∃X,L=toBl X
def wfV (L:List Int):Int:=wfL (toSl L)
theorem wfV_to (X:List UInt8):wfV (toBl X)=wfL X:=by unfold wfV;rw [toS_toB]
theorem wfV_suc {X:List UInt8} {k:Int} (h0:0≤k) (h:k<X.length):wfL (X.take (k+1).toNat)=wfL (X.take k.toNat)*wdF (X.getD k.toNat 0):=by
 rw [show (k+1).toNat =k.toNat+1 by omega,wfL_step (by omega),List.getD_eq_getElem?_getD,List.getElem?_eq_getElem (by omega)];rfl
theorem wf_tk {X:List UInt8} (k:Nat):(toBl X).take k=toBl (X.take k):=by simp [toBl]
theorem wd_of {c:UInt8} : wdF c=if (c.toNat:Int)=100 then 2 else if (c.toNat:Int)=116 then 3 else 1:=by
 unfold wdF
 have h1:(c==100)=decide ((c.toNat:Int)=100):=by rw [←byte_is (m:=100) rfl];rfl
 have h2:(c==116)=decide ((c.toNat:Int)=116):=by rw [←byte_is (m:=116) rfl];rfl
 rw [h1,h2];simp only [decide_eq_true_eq]
def sp_i_wordFactor (p:Pr):FSpec:=fsp (a1 aR8) (fun L=>WfP L) (fun L=>.i .i64 (wfV L))
theorem ok_i_wordFactor:FOk Tryz.prog 264 (sp_i_wordFactor std):=by
 refine FOk.go (c:=cx std [] [] 0) (cx_ok .nil .nil) mixed Tryz.func264 rfl rfl rfl (by kernel_rfl) ?_
 rintro L hp
 refine⟨rfl,?_⟩
 obtain⟨H,hH⟩ : ∃H:Hd (Int×Int),H=⟨fun (k,m)=>0≤k∧k≤L.length∧m=wfV (L.take k.toNat),fun (k,m)=>(L.length-k).toNat,(· < ·)⟩:=⟨_,rfl⟩
 have hl:=hdl hH
 generalize hP:std=p,hB0:wfV=B0
 cbv
 repeat' first|refine fun (_:Unit)=>?_;cbv|refine Or.inr ⟨8,[],[.s 7 (.i .i64),.s 2 (.i .i64)],[],[],H,rfl,hl,?_,fun ((k,m):Int×Int) hk=>?_⟩<;>cbv|refine aI2 (fun h=>?_) (fun h=>?_)<;>cbv|refine aI2 ?_ ?_
 all_goals subst hP hB0 hH
 all_goals clear hl
 all_goals try dsimp only at hk
 all_goals try dsimp only
 all_goals try exact fin
 all_goals obtain⟨hl,X,rfl⟩:=hp
 all_goals have hl:X.length≤15:=by rw [toB_len] at hl;exact hl
 ·refine⟨Int.le_refl 0,Int.natCast_nonneg _,?_⟩
  show (1:Int)=wfL []
  rfl
 all_goals obtain⟨q0,q1,rfl⟩:=hk
 all_goals have q1:k≤((toBl X).length : Int):=q1
 all_goals rw [toB_len] at q1
 all_goals have hb:=wfL_bd hl k.toNat
 all_goals have em:wfV ((toBl X).take k.toNat)=wfL (X.take k.toNat):=by rw [wf_tk,wfV_to]
 all_goals try (have hlt:k<((toBl X).length : Int):=lt_of ‹_›;rw [toB_len] at hlt;have hs:=wfV_suc q0 hlt)
 all_goals have hw:=wd_of (c:=X.getD k.toNat 0)
 all_goals have e1:wfV ((toBl X).take (k+1).toNat)=wfL (X.take (k+1).toNat):=by rw [wf_tk,wfV_to]
 all_goals have e2:((toBl X).getD k.toNat 0)=((X.getD k.toNat 0).toNat : Int):=toB_get X k.toNat
 ·exact in64 (by show _≤wfV ((toBl X).take k.toNat)*2∧wfV ((toBl X).take k.toNat)*2≤_;omega)
 ·exact in64 (by show _≤k+1∧k+1≤_;omega)
 ·refine⟨by show 0≤k+1;omega,by show k+1≤((toBl X).length : Int);rw [toB_len];omega,?_⟩
  have h1:(toBl X).getD k.toNat 0=100:=by have:=(show std.eqI ((toBl X).getD k.toNat 0) 100=true by assumption);simpa using this
  rw [e2] at h1
  rw [if_pos h1] at hw
  show wfV ((toBl X).take k.toNat)*2=wfV ((toBl X).take (k+1).toNat)
  rw [e1,hs,hw,em]
 ·exact in64 (by show _≤wfV ((toBl X).take k.toNat)*3∧wfV ((toBl X).take k.toNat)*3≤_;omega)
 ·exact in64 (by show _≤k+1∧k+1≤_;omega)
 ·refine⟨by show 0≤k+1;omega,by show k+1≤((toBl X).length : Int);rw [toB_len];omega,?_⟩
  have h1 : ¬(toBl X).getD k.toNat 0=100:=by have:=(show std.eqI ((toBl X).getD k.toNat 0) 100=false by assumption);simpa using this
  have h2:(toBl X).getD k.toNat 0=116:=by have:=(show std.eqI ((toBl X).getD k.toNat 0) 116=true by assumption);simpa using this
  rw [e2] at h1 h2
  rw [if_neg h1,if_pos h2] at hw
  show wfV ((toBl X).take k.toNat)*3=wfV ((toBl X).take (k+1).toNat)
  rw [e1,hs,hw,em]
 ·exact in64 (by show _≤k+1∧k+1≤_;omega)
 ·refine⟨by show 0≤k+1;omega,by show k+1≤((toBl X).length : Int);rw [toB_len];omega,?_⟩
  have h1 : ¬(toBl X).getD k.toNat 0=100:=by have:=(show std.eqI ((toBl X).getD k.toNat 0) 100=false by assumption);simpa using this
  have h2 : ¬(toBl X).getD k.toNat 0=116:=by have:=(show std.eqI ((toBl X).getD k.toNat 0) 116=false by assumption);simpa using this
  rw [e2] at h1 h2
  rw [if_neg h1,if_neg h2] at hw
  show wfV ((toBl X).take k.toNat)=wfV ((toBl X).take (k+1).toNat)
  rw [e1,hs,hw,em,Int.mul_one]
 ·have hge:((toBl X).length : Int)≤k:=ge_of ‹_›
  show wfV ((toBl X).take k.toNat)=wfV (toBl X)
  rw [List.take_of_length_le (by omega)]
structure LsQ (t:TS) (b:Bd) (q:Pl):Prop where
 ts:TsOk t
 vp:VP b q
theorem lsI_len (t:TS) (b:Bd) (q:Pl):(lsI t b q).length =q.word.length:=by unfold lsI;rw [List.length_map,List.length_range]
theorem lsI_at {t:TS} {b:Bd} {q:Pl} {k:Int} (h0:0≤k) (h:k<q.word.length):(lsI t b q).getD k.toNat 0=if b.let_ (q.sr k) (q.sc k) then valT t (q.word.getD k.toNat 0) else ltF (b.prm (q.sr k) (q.sc k))*valT t (q.word.getD k.toNat 0):=by
 unfold lsI
 rw [List.getD_eq_getElem?_getD,List.getElem?_map,List.getElem?_range (by omega)]
 show (if b.let_ (q.sr ((k.toNat:Nat):Int)) (q.sc ((k.toNat:Nat):Int)) then _ else ltF (b.prm (q.sr ((k.toNat:Nat):Int)) (q.sc ((k.toNat:Nat):Int)))*_)=_
 rw [show ((k.toNat:Nat):Int)=k from by omega]
theorem u8_cast (c:UInt8):u8 (c.toNat:Int)=c:=by simp [u8]
theorem lsc_at (t:TS) (s:List UInt8) (b:Bd) (k r c:Int):lscI t (std.byte s k) (prmV b r c)=ltF (b.prm r c)*valT t (s.getD k.toNat 0):=by
 unfold lscI prmV
 rw [u8_byte,u8_cast]
theorem lsc_dot (t:TS) (s:List UInt8) (k:Int):lscI t (std.byte s k) 46=valT t (s.getD k.toNat 0):=by
 unfold lscI
 rw [u8_byte,show u8 46=46 from rfl,show ltF 46=1 from rfl,Int.one_mul]
theorem prm_in (b:Bd) (r c:Int):std.inK .u8 (prmV b r c):=by
 have:=u8_lt (b.prm r c)
 exact⟨this.1,by show prmV b r c≤255;unfold prmV;omega⟩
theorem on_k {b:Bd} {q:Pl} {k:Int} (hp:VP b q) (h0:0≤k) (h:k<q.word.length):b.inB (q.sr k) (q.sc k)=true:=by
 have:=hp.on k.toNat (by omega)
 rwa [show ((k.toNat:Nat):Int)=k from by omega] at this
def sp_i_letterScores (p:Pr):FSpec:=fsp (ac (aA aTs) (ac (aA aBd) (a1 (aA aPl)))) (fun (t,b,q)=>LsQ t b q) (fun (t,b,q)=>.rsl [.i .i64] (lsI t b q))
def sp_i_letterScores_o (p:Pr):FSpec:=fsp (ac (aA aTs) (ac (aA aBd) (a1 (aA aPl)))) (fun (t,b,q)=>LsQ t b q) (fun (t,b,q)=>.osl 0) (fun (t,b,q)=>[(0,.own [.i .i64] (lsI t b q) 2)])
theorem ok_i_letterScores_o:FOk Tryz.prog 263 (sp_i_letterScores_o std):=by
 refine FOk.go (c:=cx std [(211,sp_i_Play_square std),(258,sp_i_Board_on std),(266,sp_i_Board_premium std),(267,sp_lsc std)] [] 0) (cx_ok (.cons ok_i_Play_square (.cons ok_i_Board_on (.cons ok_i_Board_premium (.cons ok_lsc .nil)))) .nil) mixed Tryz.func263 rfl rfl rfl (by kernel_rfl) ?_
 rintro ⟨t,b,q⟩ hp
 dsimp only at hp
 refine⟨rfl,?_⟩
 unfold sp_i_Play_square sp_i_Board_on sp_i_Board_premium sp_lsc
 obtain⟨H,hH⟩ : ∃H:Hd (Int×List Int),H=⟨fun (k,L)=>0≤k∧k≤q.word.length∧L=(lsI t b q).take k.toNat,fun (k,L)=>(q.word.length-k).toNat,(· < ·)⟩:=⟨_,rfl⟩
 have hl:=hdl hH
 generalize hP:std=p,hB0:lsI=B0,hB1:srI=B1,hB2:scI=B2,hB3:Bd.let_=B3,hB4:Bd.inB=B4,hB5:prmV=B5,hB6:lscI=B6
 cbv
 repeat' first|refine fun (_:Unit)=>?_;cbv|refine Or.inr ⟨15,[],[.c 4 0 (.i .i64),.o 3 [.i .i64]],[.s 7],[],H,rfl,hl,?_,fun ((k,L):Int×List Int) hk=>?_⟩<;>cbv|refine aI2 (fun h=>?_) (fun h=>?_)<;>cbv|refine aI2 ?_ ?_
 all_goals subst hP hB0 hB1 hB2 hB3 hB4 hB5 hB6 hH
 all_goals clear hl
 all_goals try dsimp only at hk
 all_goals try dsimp only
 all_goals try exact fin
 all_goals try simp only [eta_bd,eta_pl,eta_ts] at *
 ·exact asc_of hp.vp.lett
 all_goals obtain⟨q0,q1,rfl⟩:=hk
 all_goals have q1:k≤(q.word.length:Int):=q1
 all_goals have a1:=hp.vp.r
 all_goals have a2:=hp.vp.c
 all_goals have a3:=hp.vp.hi
 all_goals have hll:=lsI_len t b q
 all_goals have hl2:((lsI t b q).take k.toNat).length ≤q.word.length:=by rw [List.length_take];omega
 all_goals try (have hlt:k<(q.word.length:Int):=lt_of ‹_›;have h2:=lsI_at (t:=t) (b:=b) q0 hlt)
 ·exact sqP_of (by omega) (by omega) (by omega)
 ·exact on_k hp.vp q0 hlt
 ·exact prm_in b _ _
 ·show (((lsI t b q).take k.toNat).length : Int)+1≤_
  omega
 ·refine⟨by show 0≤k+1;omega,by show k+1≤(q.word.length:Int);omega,?_⟩
  rw [lsc_at]
  show (lsI t b q).take k.toNat++[ltF (b.prm (q.sr k) (q.sc k))*valT t (q.word.getD k.toNat 0)]=(lsI t b q).take (k+1).toNat
  rw [tk q0 (by rw [hll];exact hlt) 0,h2,if_neg]
  have : b.let_ (srI q k) (scI q k)=false:=by assumption
  rw [show b.let_ (q.sr k) (q.sc k)=false from this];simp
 ·show (((lsI t b q).take k.toNat).length : Int)+1≤_
  omega
 ·refine⟨by show 0≤k+1;omega,by show k+1≤(q.word.length:Int);omega,?_⟩
  rw [lsc_dot]
  show (lsI t b q).take k.toNat++[valT t (q.word.getD k.toNat 0)]=(lsI t b q).take (k+1).toNat
  rw [tk q0 (by rw [hll];exact hlt) 0,h2,if_pos]
  have : b.let_ (srI q k) (scI q k)=true:=by assumption
  exact this
 ·rw [tk_all (by rw [hll];exact ge_of ‹_›)]
theorem ok_i_letterScores:FOk Tryz.prog 263 (sp_i_letterScores std):=FOk.frz ok_i_letterScores_o fun ⟨t,b,q⟩=>⟨by simp [deep,deeps,AH.get],by simp [PV.idIn,idInL]⟩
theorem pus_len (b:Bd) (q:Pl):(pusI b q).length =(nsI b q).length :=by unfold pusI;rw [List.length_map,ns_len]
theorem pus_suc {b:Bd} {q:Pl} {k:Int} (h0:0≤k) (h:k<(nsI b q).length):toBl ((pusI b q).take k.toNat)++[prmV b ((nsI b q).getD k.toNat (0,0)).1 ((nsI b q).getD k.toNat (0,0)).2]=toBl ((pusI b q).take (k+1).toNat):=by
 obtain⟨n, -,h2,h3⟩:=ns_at h0 h
 rw [h2]
 unfold pusI
 rw [←List.map_take,←List.map_take,h3]
 simp [toBl,prmV]
def sp_i_premiumsUsed (p:Pr):FSpec:=fsp (ac (aA aBd) (a1 (aA aPl))) (fun (b,q)=>VP b q) (fun (b,q)=>.rsl [.i .u8] (toBl (pusI b q)))
def sp_i_premiumsUsed_o (p:Pr):FSpec:=fsp (ac (aA aBd) (a1 (aA aPl))) (fun (b,q)=>VP b q) (fun (b,q)=>.osl 0) (fun (b,q)=>[(0,.own [.i .u8] (toBl (pusI b q)) 5)])
theorem ok_i_premiumsUsed_o:FOk Tryz.prog 265 (sp_i_premiumsUsed_o std):=by
 refine FOk.go (c:=cx std [(203,sp_i_newSquares std),(266,sp_i_Board_premium std)] [] 0) (cx_ok (.cons ok_i_newSquares (.cons ok_i_Board_premium .nil)) .nil) mixed Tryz.func265 rfl rfl rfl (by kernel_rfl) ?_
 rintro ⟨b,q⟩ hp
 dsimp only at hp
 refine⟨rfl,?_⟩
 unfold sp_i_newSquares sp_i_Board_premium
 obtain⟨H,hH⟩ : ∃H:Hd (Int×List Int),H=⟨fun (k,L)=>0≤k∧k≤(nsI b q).length ∧L=toBl ((pusI b q).take k.toNat),fun (k,L)=>((nsI b q).length - k).toNat,(· < ·)⟩:=⟨_,rfl⟩
 have hl:=hdl hH
 generalize hP:std=p,hB0:toBl=B0,hB1:pusI=B1,hB2:nsI=B2,hB3:prmV=B3,hB4:Bd.inB=B4
 cbv
 repeat' first|refine fun (_:Unit)=>?_;cbv|refine Or.inr ⟨20,[],[.s 19 (.i .i64),.o 2 [.i .u8]],[.s 7],[],H,rfl,hl,?_,fun ((k,L):Int×List Int) hk=>?_⟩<;>cbv|refine aI2 (fun h=>?_) (fun h=>?_)<;>cbv|refine aI2 ?_ ?_
 all_goals subst hP hB0 hB1 hB2 hB3 hB4 hH
 all_goals clear hl
 all_goals try dsimp only at hk
 all_goals try dsimp only
 all_goals try exact fin
 all_goals try simp only [eta_bd,eta_pl] at *
 ·exact⟨Int.le_refl 0,Int.natCast_nonneg _,rfl⟩
 all_goals obtain⟨q0,q1,rfl⟩:=hk
 all_goals have q1:k≤((nsI b q).length : Int):=q1
 all_goals have hn:=newTo_length b q q.word.length
 all_goals have hn:(newL b q).length ≤q.word.length:=hn
 all_goals have hnl:=ns_len (b:=b) (q:=q)
 all_goals have hpl:=pus_len b q
 all_goals have a3:=hp.hi
 all_goals try (have hlt:k<((nsI b q).length : Int):=lt_of ‹_›)
 ·exact ns_in hp q0 hlt
 ·show ((toBl ((pusI b q).take k.toNat)).length : Int)+1≤_
  rw [toB_len,List.length_take];omega
 ·exact in64 (by show _≤k+1∧k+1≤_;omega)
 ·exact⟨by show 0≤k+1;omega,by show k+1≤((nsI b q).length : Int);omega,pus_suc q0 hlt⟩
 ·have hge:((nsI b q).length : Int)≤k:=ge_of ‹_›
  rw [List.take_of_length_le (by omega)]
theorem ok_i_premiumsUsed:FOk Tryz.prog 265 (sp_i_premiumsUsed std):=FOk.frz ok_i_premiumsUsed_o fun ⟨b,q⟩=>⟨by simp [deep,deeps,AH.get],by simp [PV.idIn,idInL]⟩
end Ax
end Go.Proofs.YtjjonmhpgkahoaaGreatDoor
