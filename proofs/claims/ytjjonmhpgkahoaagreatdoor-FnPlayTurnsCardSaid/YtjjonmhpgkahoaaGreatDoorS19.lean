/-
  Crossings, words that a play forms, wrong words, whether it touches the board, its code, of the impl package; Words that a play forms, wrong words, whether it touches the board, its code, of the impl package; Wrong words, letters on the board, whether a play touches, its code, of the impl package; Scores of letters, of words, of plays of the impl package; Factors, letters' scores, parts, scores of plays, of the impl package; Parts of scores and scores of plays, of the impl package; Scores of plays, valid tile sets and setups, of the impl package; Facts of valid tile sets and of valid games.
  Conditions: none.
-/
import Derived.Test.YtjjonmhpgkahoaaGreatDoorS18
import Derived.MapKept
import Derived.Test.YtjjonmhpgkahoaaGreatDoorS15
set_option linter.unusedSimpArgs false
set_option linter.unusedVariables false
namespace Go.Proofs.YtjjonmhpgkahoaaGreatDoor
namespace Ax
set_option maxRecDepth 100000
set_option maxHeartbeats 2000000
def crTo (b:Bd) (q:Pl) (k:Int):List ((Int×Int)×List (Int×Int)):=crossP b q ((newL b q).take k.toNat)
def crS1 (b:Bd) (q:Pl):List (Int×Int):=(crossP b q (newL b q)).map (·.1)
def crS2 (b:Bd) (q:Pl):List (List (Int×Int)):=(crossP b q (newL b q)).map (·.2)
section
variable {b:Bd} {q:Pl} {k:Int}
theorem ns_len:(nsI b q).length =(newL b q).length :=by simp [nsI,sqL]
theorem ns_at (h0:0≤k) (h:k<(nsI b q).length) : ∃n:Nat,n<q.word.length∧(nsI b q).getD k.toNat (0,0)=(q.sr n,q.sc n)∧(newL b q).take (k+1).toNat =(newL b q).take k.toNat++[n]:=by
 rw [ns_len] at h
 have hk:k.toNat<(newL b q).length :=by omega
 have hm:(newL b q)[k.toNat]∈newL b q:=List.getElem_mem hk
 refine⟨(newL b q)[k.toNat],?_,?_,?_⟩
 ·unfold newL newTo at hm
  exact List.mem_range.1 (List.mem_filter.1 hm).1
 ·unfold nsI sqL
  rw [List.getD_eq_getElem?_getD,List.getElem?_map,List.getElem?_eq_getElem hk];rfl
 ·rw [tk h0 (by omega) 0,List.getD_eq_getElem?_getD,List.getElem?_eq_getElem hk];rfl
theorem cr_suc (h0:0≤k) (h:k<(nsI b q).length):crTo b q (k+1)=crTo b q k++if 2≤(seqL (madeB b q) (!q.down) ((nsI b q).getD k.toNat (0,0)).1 ((nsI b q).getD k.toNat (0,0)).2).length then [((nsI b q).getD k.toNat (0,0),seqL (madeB b q) (!q.down) ((nsI b q).getD k.toNat (0,0)).1 ((nsI b q).getD k.toNat (0,0)).2)] else []:=by
 obtain⟨n,h1,h2,h3⟩:=ns_at h0 h
 rw [h2]
 unfold crTo
 rw [h3]
 unfold crossP sqL
 rw [List.map_append,List.map_append,List.filter_append]
 congr 1
 by_cases h4:2≤(seqL (madeB b q) (!q.down) (q.sr (n:Int)) (q.sc (n:Int))).length
 ·simp [h4]
 ·simp [h4]
theorem made_fit (h:VP b q):(madeB b q).Fit :=⟨h.fit.lo,h.fit.hi,h.fit.prem,by show ((madeTo b q q.word.length).length : Int)=_;rw [made_len];exact h.fit.cells⟩
theorem ns_in (hp:VP b q) (h0:0≤k) (h:k<(nsI b q).length):b.inB ((nsI b q).getD k.toNat (0,0)).1 ((nsI b q).getD k.toNat (0,0)).2=true:=by
 obtain⟨n,h1,h2, -⟩:=ns_at h0 h
 rw [h2]
 exact hp.on n h1
theorem ns_sq (hp:VP b q) (h0:0≤k) (h:k<(nsI b q).length):SqIn (madeB b q) ((nsI b q).getD k.toNat (0,0)).1 ((nsI b q).getD k.toNat (0,0)).2:=by
 have h1:=Fit_in hp.fit (ns_in hp h0 h)
 exact⟨made_fit hp,h1.1,h1.2⟩
theorem cr_len (hp:VP b q):(crTo b q k).length ≤12:=by
 have h1:=crossP_length b q ((newL b q).take k.toNat)
 have h2:=newTo_length b q q.word.length
 have h3:=hp.hi
 have h4:((newL b q).take k.toNat).length ≤(newL b q).length :=by rw [List.length_take];omega
 have h5:(newL b q).length ≤q.word.length:=h2
 unfold crTo
 omega
theorem cr_all (hge:((nsI b q).length : Int)≤k):crTo b q k=crossP b q (newL b q):=by
 unfold crTo
 rw [List.take_of_length_le (by rw [ns_len] at hge;omega)]
end
def sp_i_crossings (p:Pr):FSpec:=fsp (ac (aA aBd) (a1 (aA aPl))) (fun (b,q)=>VP b q) (fun (b,q)=>.tup [.rsl [.i .i64,.i .i64] (crS1 b q),.rsl [.r [.i .i64,.i .i64]] (crS2 b q)])
def sp_i_crossings_o (p:Pr):FSpec:=fsp (ac (aA aBd) (a1 (aA aPl))) (fun (b,q)=>VP b q) (fun (b,q)=>.tup [.osl 0,.osl 1]) (fun (b,q)=>[(0,.own [.i .i64,.i .i64] (crS1 b q) 211),(1,.own [.r [.i .i64,.i .i64]] (crS2 b q) 200)])
theorem ok_i_crossings_o:FOk Tryz.prog 261 (sp_i_crossings_o std):=by
 refine FOk.go (c:=cx std [(119,sp_i_made std),(203,sp_i_newSquares std),(304,sp_i_sequence std),(268,sp_i_directionOf std),(365,sp_i_right_cross std),(363,sp_i_downwards_cross std)] [] 0) (cx_ok (.cons ok_i_made (.cons ok_i_newSquares (.cons ok_i_sequence (.cons ok_i_directionOf (.cons ok_i_right_cross (.cons ok_i_downwards_cross .nil)))))) .nil) mixed Tryz.func261 rfl rfl rfl (by kernel_rfl) ?_
 rintro ⟨b,q⟩ hp
 dsimp only at hp
 obtain⟨row,col,dn,wd⟩:=q
 obtain⟨q,hq⟩ : ∃x:Pl,x=⟨row,col,dn,wd⟩:=⟨_,rfl⟩
 cases dn
 all_goals
  refine⟨rfl,?_⟩
  unfold sp_i_made sp_i_newSquares sp_i_sequence sp_i_directionOf sp_i_right_cross sp_i_downwards_cross
  obtain⟨H,hH⟩ : ∃H:Hd (Int×List (Int×Int)×List (List (Int×Int))),H=⟨fun (k,S,W)=>0≤k∧k≤(nsI b q).length ∧S=(crTo b q k).map (·.1)∧W=(crTo b q k).map (·.2),fun (k,S,W)=>((nsI b q).length - k).toNat,(· < ·)⟩:=⟨_,rfl⟩
  have hl : ∀m n,H.lt m n→m<n:=by subst hH;exact fun _ _ h=>h
  generalize hP:std=p,hB0:crS1=B0,hB1:crS2=B1,hB2:madeB=B2,hB3:nsI=B3,hB4:npI=B4,hB5:seqL=B5
  cbv
  repeat' first
   | (refine fun (_:Unit)=>?_;cbv)
   | (refine Or.inr ⟨28,[],[.s 27 (.i .i64),.o 3 [.i .i64,.i .i64],.o 4 [.r [.i .i64,.i .i64]]],[.s 9,.s 10],[],H,rfl,hl,?_,fun ((k,S,W):Int×List (Int×Int)×List (List (Int×Int))) hk=>?_⟩<;>cbv)
   | (refine aI2 (fun h=>?_) (fun h=>?_)<;>cbv)
   | (refine aI2 ?_ ?_)
 all_goals subst hP hB0 hB1 hB2 hB3 hB4 hB5 hH
 all_goals clear hl
 all_goals try dsimp only at hk
 all_goals try dsimp only
 all_goals try exact fin
 all_goals (have hdn:=congrArg Pl.down hq;dsimp only at hdn)
 all_goals (try simp only [eta_bd,←hq] at *)
 all_goals try (obtain⟨q0,q1,rfl,rfl⟩:=hk)
 all_goals try (have q1:k≤((nsI b q).length : Int):=q1)
 all_goals try (have hlt:k<((nsI b q).length : Int):=lt_of ‹_›)
 all_goals (have hn:=newTo_length b q q.word.length;have hw:=hp.hi;have hnl:=ns_len (b:=b) (q:=q);have hn:(newL b q).length ≤q.word.length:=hn)
 ·exact⟨Int.le_refl 0,Int.natCast_nonneg _,rfl,rfl⟩
 ·exact ns_sq hp (by omega) (by omega)
 ·have:=cr_len (k:=k) hp
  show (((crTo b q k).map (·.1)).length : Int)+1≤_
  rw [List.length_map];omega
 ·have:=cr_len (k:=k) hp
  show (((crTo b q k).map (·.2)).length : Int)+1≤_
  rw [List.length_map];omega
 ·exact in64 (by show _≤k+1∧k+1≤_;omega)
 ·have h2:2≤(seqL (madeB b q) (!q.down) ((nsI b q).getD k.toNat (0,0)).1 ((nsI b q).getD k.toNat (0,0)).2).length :=by
   rw [hdn]
   have:=(show std.leI 2 (std.len (seqL (madeB b q) true ((nsI b q).getD k.toNat (0,0)).1 ((nsI b q).getD k.toNat (0,0)).2))=true by assumption)
   simp at this;simp;omega
  refine⟨by show 0≤k+1;omega,by show k+1≤((nsI b q).length : Int);omega,?_,?_⟩
  ·show (crTo b q k).map (·.1)++[(nsI b q).getD k.toNat (0,0)]=(crTo b q (k+1)).map (·.1)
   rw [cr_suc (by omega) (by omega),if_pos h2];simp
  ·show (crTo b q k).map (·.2)++[seqL (madeB b q) true ((nsI b q).getD k.toNat (0,0)).1 ((nsI b q).getD k.toNat (0,0)).2]=(crTo b q (k+1)).map (·.2)
   rw [cr_suc (by omega) (by omega),if_pos h2,hdn];simp
 ·exact in64 (by show _≤k+1∧k+1≤_;omega)
 ·have h2 : ¬2≤(seqL (madeB b q) (!q.down) ((nsI b q).getD k.toNat (0,0)).1 ((nsI b q).getD k.toNat (0,0)).2).length :=by
   rw [hdn]
   have:=(show std.leI 2 (std.len (seqL (madeB b q) true ((nsI b q).getD k.toNat (0,0)).1 ((nsI b q).getD k.toNat (0,0)).2))=false by assumption)
   simp at this;simp;omega
  refine⟨by show 0≤k+1;omega,by show k+1≤((nsI b q).length : Int);omega,?_,?_⟩
  ·show (crTo b q k).map (·.1)=(crTo b q (k+1)).map (·.1)
   rw [cr_suc (by omega) (by omega),if_neg h2];simp
  ·show (crTo b q k).map (·.2)=(crTo b q (k+1)).map (·.2)
   rw [cr_suc (by omega) (by omega),if_neg h2];simp
 ·rw [cr_all (ge_of ‹_›)];rfl
 ·rw [cr_all (ge_of ‹_›)];rfl
 ·exact⟨Int.le_refl 0,Int.natCast_nonneg _,rfl,rfl⟩
 ·exact ns_sq hp (by omega) (by omega)
 ·have:=cr_len (k:=k) hp
  show (((crTo b q k).map (·.1)).length : Int)+1≤_
  rw [List.length_map];omega
 ·have:=cr_len (k:=k) hp
  show (((crTo b q k).map (·.2)).length : Int)+1≤_
  rw [List.length_map];omega
 ·exact in64 (by show _≤k+1∧k+1≤_;omega)
 ·have h2:2≤(seqL (madeB b q) (!q.down) ((nsI b q).getD k.toNat (0,0)).1 ((nsI b q).getD k.toNat (0,0)).2).length :=by
   rw [hdn]
   have:=(show std.leI 2 (std.len (seqL (madeB b q) false ((nsI b q).getD k.toNat (0,0)).1 ((nsI b q).getD k.toNat (0,0)).2))=true by assumption)
   simp at this;simp;omega
  refine⟨by show 0≤k+1;omega,by show k+1≤((nsI b q).length : Int);omega,?_,?_⟩
  ·show (crTo b q k).map (·.1)++[(nsI b q).getD k.toNat (0,0)]=(crTo b q (k+1)).map (·.1)
   rw [cr_suc (by omega) (by omega),if_pos h2];simp
  ·show (crTo b q k).map (·.2)++[seqL (madeB b q) false ((nsI b q).getD k.toNat (0,0)).1 ((nsI b q).getD k.toNat (0,0)).2]=(crTo b q (k+1)).map (·.2)
   rw [cr_suc (by omega) (by omega),if_pos h2,hdn];simp
 ·exact in64 (by show _≤k+1∧k+1≤_;omega)
 ·have h2 : ¬2≤(seqL (madeB b q) (!q.down) ((nsI b q).getD k.toNat (0,0)).1 ((nsI b q).getD k.toNat (0,0)).2).length :=by
   rw [hdn]
   have:=(show std.leI 2 (std.len (seqL (madeB b q) false ((nsI b q).getD k.toNat (0,0)).1 ((nsI b q).getD k.toNat (0,0)).2))=false by assumption)
   simp at this;simp;omega
  refine⟨by show 0≤k+1;omega,by show k+1≤((nsI b q).length : Int);omega,?_,?_⟩
  ·show (crTo b q k).map (·.1)=(crTo b q (k+1)).map (·.1)
   rw [cr_suc (by omega) (by omega),if_neg h2];simp
  ·show (crTo b q k).map (·.2)=(crTo b q (k+1)).map (·.2)
   rw [cr_suc (by omega) (by omega),if_neg h2];simp
 ·rw [cr_all (ge_of ‹_›)];rfl
 ·rw [cr_all (ge_of ‹_›)];rfl
theorem ok_i_crossings:FOk Tryz.prog 261 (sp_i_crossings std):=FOk.frz ok_i_crossings_o fun ⟨b,q⟩=>⟨by simp [deep,deeps,AH.get],by simp [PV.idIn,idInL]⟩
end Ax
namespace Ax
set_option maxRecDepth 100000
set_option maxHeartbeats 2000000
section
variable {b:Bd} {q:Pl} {k j:Int}
theorem cr2_len (hp:VP b q):(crS2 b q).length ≤12:=by
 unfold crS2
 have h1:=crossP_length b q (newL b q)
 have h2:=newTo_length b q q.word.length
 have h3:=hp.hi
 have h5:(newL b q).length ≤q.word.length:=h2
 rw [List.length_map];omega
theorem cr2_at (j:Nat):((crS2 b q).getD j []).length ≤32:=by
 rcases Nat.lt_or_ge j (crS2 b q).length with h | h
 ·rw [List.getD_eq_getElem?_getD,List.getElem?_eq_getElem h]
  obtain⟨x,h1,h2⟩:=List.mem_map.1 (List.getElem_mem h)
  show ((crS2 b q)[j]).length ≤32
  rw [←h2]
  exact crossP_seq b q _ x h1
 ·rw [List.getD_eq_getElem?_getD,List.getElem?_eq_none h];decide
def crSq (b:Bd) (q:Pl) (k:Int):List (Int×Int):=(crS2 b q).getD k.toNat []
end
end Ax
namespace Ax
set_option maxRecDepth 100000
set_option maxHeartbeats 2000000
def sp_i_Board_lettersOn (p:Pr):FSpec:=fsp (a1 (aA aBd)) (fun b=>b.Fit) (fun b=>.s (lettersS b))
theorem ok_i_Board_lettersOn:FOk Tryz.prog 90 (sp_i_Board_lettersOn std):=by
 refine FOk.go (c:=cx std [(187,sp_replace std)] [] 0) (cx_ok (.cons ok_replace .nil) .nil) mixed Tryz.func90 rfl rfl rfl (by kernel_rfl) ?_
 rintro b hp
 refine⟨rfl,?_⟩
 unfold sp_replace
 generalize hP:std=p,hB0:lettersS=B0,hB1:replS=B1
 cbv
 repeat' first
  | (refine fun (_:Unit)=>?_;cbv)
  | (refine aI2 (fun h=>?_) (fun h=>?_)<;>cbv)
  | (refine aI2 ?_ ?_)
  | (refine Or.inl (fun (_:Unit)=>?_);cbv)
 all_goals subst hP hB0 hB1
 all_goals try exact fin
 ·show (b.cells.length:Int)≤1073741824
  have h1:=hp.cells;have h2:=hp.lo;have h3:=hp.hi
  have h4:b.size*b.size≤15*b.size:=Int.mul_le_mul_of_nonneg_right h3 (by omega)
  omega
 ·exact replaceAll_dots b.cells
def emptyB (b:Bd):Bool:=(lettersS b).isEmpty
def sp_i_Board_blank (p:Pr):FSpec:=fsp (a1 (aA aBd)) (fun b=>b.Fit) (fun b=>.b (emptyB b))
theorem ok_i_Board_blank:FOk Tryz.prog 82 (sp_i_Board_blank std):=by
 refine FOk.go (c:=cx std [(90,sp_i_Board_lettersOn std)] [] 0) (cx_ok (.cons ok_i_Board_lettersOn .nil) .nil) mixed Tryz.func82 rfl rfl rfl (by kernel_rfl) ?_
 rintro b hp
 refine⟨rfl,?_⟩
 unfold sp_i_Board_lettersOn
 generalize hP:std=p,hB0:lettersS=B0,hB1:emptyB=B1
 cbv
 repeat' first
  | (refine fun (_:Unit)=>?_;cbv)
  | (refine aI2 (fun h=>?_) (fun h=>?_)<;>cbv)
  | (refine aI2 ?_ ?_)
  | (refine Or.inl (fun (_:Unit)=>?_);cbv)
 all_goals subst hP hB0 hB1
 all_goals try exact fin
 ·show ((lettersS b)==[])=emptyB b
  unfold emptyB
  cases lettersS b<;>rfl
end Ax
end Go.Proofs.YtjjonmhpgkahoaaGreatDoor
namespace Go.Proofs.YtjjonmhpgkahoaaGreatDoor
open Go.RowKit
set_option maxHeartbeats 2000000
set_option maxRecDepth 100000
def facF2:Value:=.func (.func 323) #[] #[]
def facF3:Value:=.func (.func 324) #[] #[]
def facO:Obj:=.map #[⟨.int .u8 50,facF2,0⟩,⟨.int .u8 51,facF3,1⟩] 2
theorem fac2_any (x:Int) (w:World) (h0:0≤x) (h1:x≤20) :
 Calls Tryz.prog 323 #[.int .i64 x] w fun e w'=>e=.returned (.int .i64 (2*x))∧w=w':=by
 go_enter Tryz.func323,Tryz.ntmps323
 go_wp2_with (fail)
 go_ret
 exact⟨rfl,rfl⟩
theorem fac3_any (x:Int) (w:World) (h0:0≤x) (h1:x≤20) :
 Calls Tryz.prog 324 #[.int .i64 x] w fun e w'=>e=.returned (.int .i64 (3*x))∧w=w':=by
 go_enter Tryz.func324,Tryz.ntmps324
 go_wp2_with (fail)
 go_ret
 exact⟨rfl,rfl⟩
theorem alloc_set (w:World) (o o':Obj):({ w.alloc o with heap:=(w.alloc o).heap.setIfInBounds w.heap.size o' } : World)=w.alloc o':=by
 have e:(w.alloc o).heap.setIfInBounds w.heap.size o'=(w.alloc o').heap :=by
  show (w.heap.push o).setIfInBounds w.heap.size o'=w.heap.push o'
  apply Array.ext
  ·simp
  ·intro i h1 h2
   rw [Array.getElem_setIfInBounds (by simpa using h1),Array.getElem_push,Array.getElem_push]
   simp at h1 h2
   split<;>split<;>first | rfl | omega
 rw [e]
 rfl
theorem run_ins (w:World) (es:Array MapEntry) (clock:Nat) (k:Int) (v:Value) (hn:Instr.findNow (.int .u8) (.int .u8 k) es.toList 0=some none) :
 (Instr.mapUpdate 286 (.map (some w.heap.size)) (.int .u8 k) v).run Tryz.prog (w.alloc (.map es clock))=.ok () (w.alloc (.map (es.push ⟨.int .u8 k,v,clock⟩) (clock+1))):=by
 have hg:(w.alloc (.map es clock)).heap[w.heap.size]? =some (.map es clock):=(MapKept.heap_alloc w _).1
 have hm:=Tryz.underlying286
 have hd:=Tryz.underlying5
 have hk:MapKept.IsKey (.int .u8) (.int .u8 k):=rfl
 simp [Instr.mapUpdate,run_underlying hm,MapKept.run_getObj_map hg,MapKept.run_checkKey hd hk,MapKept.run_findKey hd hn,MapKept.run_setObj_map _ hg,Result.andThen]
 exact alloc_set w _ _
theorem letterFactors_any (w:World) :
 Calls Tryz.prog 305 #[] w fun e w'=>e=.returned (.map (some w.heap.size))∧w'=w.alloc facO:=by
 have m0:=run_makeMap (P:=Tryz.prog) 286 w
 have m1:=run_ins w #[] 0 50 facF2 rfl
 have m2:=run_ins w #[⟨.int .u8 50,facF2,0⟩] 1 51 facF3 rfl
 simp only [facF2,facF3] at m1 m2
 go_enter Tryz.func305,Tryz.ntmps305
 go_wp2_with (fail)
 go_ret
 exact⟨rfl,rfl⟩
theorem run_look (w:World) (g:Nat) (k:Int) (i:Nat) (v:Value) (hg:w.heap[g]? =some facO) (hn:Instr.findNow (.int .u8) (.int .u8 k) [⟨.int .u8 50,facF2,0⟩,⟨.int .u8 51,facF3,1⟩] 0=some (some (i,v))) :
 (Instr.lookup 286 (.map (some g)) (.int .u8 k) true).run Tryz.prog w=.ok (.tuple #[v,.bool true]) w:=by
 have hm:=Tryz.underlying286
 have hd:=Tryz.underlying5
 have hk:MapKept.IsKey (.int .u8) (.int .u8 k):=rfl
 simp [Instr.lookup,run_underlying hm,MapKept.run_getObj_map hg,MapKept.run_checkKey hd hk,MapKept.run_findKey hd hn,Result.andThen]
theorem run_look0 (w:World) (g:Nat) (k:Int) (hg:w.heap[g]? =some facO) (hn:Instr.findNow (.int .u8) (.int .u8 k) [⟨.int .u8 50,facF2,0⟩,⟨.int .u8 51,facF3,1⟩] 0=some none) :
 (Instr.lookup 286 (.map (some g)) (.int .u8 k) true).run Tryz.prog w=.ok (.tuple #[.nilFunc,.bool false]) w:=by
 have hm:=Tryz.underlying286
 have hd:=Tryz.underlying5
 have hk:MapKept.IsKey (.int .u8) (.int .u8 k):=rfl
 have hz:(zeroValue 92).run Tryz.prog w=.ok .nilFunc w:=rfl
 simp [Instr.lookup,run_underlying hm,MapKept.run_getObj_map hg,MapKept.run_checkKey hd hk,MapKept.run_findKey hd hn,Result.andThen,hz]
theorem letterScore_k (x0 x1 x2 x3:Value) (l p:UInt8) (V:Int) (v0:0≤V) (v1:V≤20) (w:World) (kv : ∀W,Below w.heap.size w W→Calls Tryz.prog 252 #[.agg #[x0,x1,x2,x3],bv l] W fun e w'=>e=.returned (.int .i64 V)∧Below W.heap.size W w') :
 Calls Tryz.prog 267 #[.agg #[x0,x1,x2,x3],bv l,bv p] w fun e w'=>e=.returned (.int .i64 (ltF p*V))∧Below w.heap.size w w':=by
 have hbW:=(Below.refl w.heap.size w).alloc (Nat.le_refl _) (.cells #[x0,x1,x2,x3] 26)
 have hB:=Blk.new w 26 #[x0,x1,x2,x3]
 obtain⟨W,hW⟩ : ∃W,W=w.alloc (.cells #[x0,x1,x2,x3] 26):=⟨_,rfl⟩
 rw [←hW] at hbW hB
 have kvW:=kv W hbW
 clear kv
 have d0:W.cell? ⟨w.heap.size,0,none⟩=some x0:=hB.cell 0
 have d1:W.cell? ⟨w.heap.size,1,none⟩=some x1:=hB.cell 1
 have d2:W.cell? ⟨w.heap.size,2,none⟩=some x2:=hB.cell 2
 have d3:W.cell? ⟨w.heap.size,3,none⟩=some x3:=hB.cell 3
 have hlk : ∀w1:World,(w1.alloc facO).heap[w1.heap.size]? =some facO:=fun w1=>(MapKept.heap_alloc w1 _).1
 by_cases h2:p=50
 ·subst h2
  have hres:ltF 50*V=2*V:=rfl
  rw [hres]
  have hlk : ∀w1:World,(Instr.lookup 286 (.map (some w1.heap.size)) (bv 50) true).run Tryz.prog (w1.alloc facO)=.ok (.tuple #[facF2,.bool true]) (w1.alloc facO):=fun w1=>run_look (w1.alloc facO) w1.heap.size 50 0 facF2 (hlk w1) rfl
  simp only [facF2] at hlk
  go_enter Tryz.func267,Tryz.ntmps267
  go_wp2_with (first
   | (go_at_call 252;rw [←hW];refine kvW.mono ?_;rintro e w1 ⟨rfl,hb1⟩)
   | (go_at_call 305;refine (letterFactors_any _).mono ?_;rintro e w2 ⟨rfl,rfl⟩;have hlk:=hlk w1)
   | (go_at_call 323;refine (fac2_any V _ v0 v1).mono ?_;rintro e w3 ⟨rfl,rfl⟩))
  go_ret
  exact⟨rfl,hbW.trans ((hb1.alloc hb1.size _).mono hbW.size)⟩
 ·by_cases h3:p=51
  ·subst h3
   have hres:ltF 51*V=3*V:=rfl
   rw [hres]
   have hlk : ∀w1:World,(Instr.lookup 286 (.map (some w1.heap.size)) (bv 51) true).run Tryz.prog (w1.alloc facO)=.ok (.tuple #[facF3,.bool true]) (w1.alloc facO):=fun w1=>run_look (w1.alloc facO) w1.heap.size 51 1 facF3 (hlk w1) rfl
   simp only [facF3] at hlk
   go_enter Tryz.func267,Tryz.ntmps267
   go_wp2_with (first
    | (go_at_call 252;rw [←hW];refine kvW.mono ?_;rintro e w1 ⟨rfl,hb1⟩)
    | (go_at_call 305;refine (letterFactors_any _).mono ?_;rintro e w2 ⟨rfl,rfl⟩;have hlk:=hlk w1)
    | (go_at_call 324;refine (fac3_any V _ v0 v1).mono ?_;rintro e w3 ⟨rfl,rfl⟩))
   go_ret
   exact⟨rfl,hbW.trans ((hb1.alloc hb1.size _).mono hbW.size)⟩
  ·have hres:ltF p*V=V:=by
    have e2:(p==50)=false:=by simpa using h2
    have e3:(p==51)=false:=by simpa using h3
    unfold ltF
    rw [e2,e3]
    simp
   rw [hres]
   have q2:((p.toNat:Int)==50)=false:=by
    have : ¬p.toNat=50:=fun e=>h2 (UInt8.toNat_inj.1 e)
    simp;omega
   have q3:((p.toNat:Int)==51)=false:=by
    have : ¬p.toNat=51:=fun e=>h3 (UInt8.toNat_inj.1 e)
    simp;omega
   have hn:Instr.findNow (.int .u8) (.int .u8 (p.toNat:Int)) [⟨.int .u8 50,facF2,0⟩,⟨.int .u8 51,facF3,1⟩] 0=some none:=by
    simp [Instr.findNow,Instr.sameNow,q2,q3]
   have hlk : ∀w1:World,(Instr.lookup 286 (.map (some w1.heap.size)) (bv p) true).run Tryz.prog (w1.alloc facO)=.ok (.tuple #[.nilFunc,.bool false]) (w1.alloc facO):=fun w1=>run_look0 (w1.alloc facO) w1.heap.size (p.toNat:Int) (hlk w1) hn
   clear hn q2 q3
   go_enter Tryz.func267,Tryz.ntmps267
   go_wp2_with (first
    | (go_at_call 252;rw [←hW];refine kvW.mono ?_;rintro e w1 ⟨rfl,hb1⟩)
    | (go_at_call 305;refine (letterFactors_any _).mono ?_;rintro e w2 ⟨rfl,rfl⟩;have hlk:=hlk w1))
   go_ret
   exact⟨rfl,hbW.trans ((hb1.alloc hb1.size _).mono hbW.size)⟩
namespace Ax
def lscI (t:TS) (l p:Int):Int:=ltF (u8 p)*valT t (u8 l)
def sp_lsc (p:Pr):FSpec:=fsp (ac (aA aTs) (ac aC (a1 aC))) (fun (t,l,q)=>p.inK .u8 l∧p.inK .u8 q∧TsOk t) (fun (t,l,q)=>.i .i64 (lscI t l q))
theorem ok_lsc:FOk Tryz.prog 267 (sp_lsc std):=by
 refine FOk.of_calls Tryz.func267 rfl rfl fun ⟨t,l,q⟩ hp w e vals hz hl=>?_
 obtain⟨hl8,hq8,ht⟩:std.inK .u8 l∧std.inK .u8 q∧TsOk t:=hp
 obtain⟨u,v,x,hv,h1,h2,h3⟩:=Rs3 hl
 rw [arr_of hv]
 have h2':v=bv (u8 l):=by unfold R at h2;rw [h2];unfold bv;rw [u8_nat hl8]
 have h3':x=bv (u8 q):=by unfold R at h3;rw [h3];unfold bv;rw [u8_nat hq8]
 have h1':=h1
 change R w e (.agg (tsK t (.rsl [.i .i64] t.values) (.rsl [.i .i64] t.counts))) u at h1'
 unfold R at h1'
 obtain⟨vs,hu,h4⟩:=h1'
 obtain⟨x0,x1,x2,x3,hvs⟩ : ∃x0 x1 x2 x3,vs=#[x0,x1,x2,x3]:=by
  have h5:=Rs_length h4
  match hvs:vs.toList,h5 with
  | [a,b,c,d],_=>exact⟨a,b,c,d,arr_of hvs⟩
 subst hvs hu
 have kv : ∀W,Below w.heap.size w W→Calls Tryz.prog 252 #[.agg #[x0,x1,x2,x3],bv (u8 l)] W fun en w'=>en=.returned (.int .i64 (valT t (u8 l)))∧Below W.heap.size W w':=fun W hW=>by
  have hs:Same e.fz w W:=fun b hb=>hW.block b (hz.lt b hb)
  have hzW:FzW W e.fz:=⟨fun b hb=>Nat.lt_of_lt_of_le (hz.lt b hb) hW.size,hz.gl.chg (M:=fun _=>False) (Chg.of_below hW) fun b hb=>⟨hz.lt b hb,id⟩⟩
  have hr:=ok_i_valueOf.run [.agg (tsK t (.rsl [.i .i64] t.values) (.rsl [.i .i64] t.counts)),.i .u8 l] ⟨[std.inK .u8 l∧TsOk t],.i .i64 (valT t (u8 l)),[]⟩ rfl (fun p hp=>by rw [List.mem_singleton.1 hp];exact⟨hl8,ht⟩) W e #[.agg #[x0,x1,x2,x3],bv (u8 l)] hzW (by
   have:=Rs_mono hs (.refl e) [.agg (tsK t (.rsl [.i .i64] t.values) (.rsl [.i .i64] t.counts)),.i .u8 l] [.agg #[x0,x1,x2,x3],v] (by unfold Rs;exact⟨_,_,rfl,h1,by unfold Rs;exact⟨_,_,rfl,h2,by unfold Rs;rfl⟩⟩)
   rw [h2'] at this
   exact this)
  refine hr.mono ?_
  rintro en w' ⟨y,e',rfl,hP⟩
  have hy:y=.int .i64 (valT t (u8 l)):=by have:=hP.val;unfold R at this;exact this
  subst hy
  exact⟨rfl,⟨hP.chg.os,hP.chg.tape,hP.chg.output,hP.chg.size,fun b hb=>hP.chg.block b hb fun ⟨k,hk,_⟩=>hk.elim⟩⟩
 rw [h2',h3']
 refine (letterScore_k x0 x1 x2 x3 (u8 l) (u8 q) (valT t (u8 l)) (ht.lo _) (ht.hi _) w kv).mono ?_
 rintro en w' ⟨rfl,hb⟩
 exact⟨_,rfl,fun w e=>by unfold R;rfl,hb⟩
end Ax
end Go.Proofs.YtjjonmhpgkahoaaGreatDoor
namespace Go.Proofs.YtjjonmhpgkahoaaGreatDoor
namespace Ax
set_option maxRecDepth 100000
set_option maxHeartbeats 2000000
def aR8:Arg (List Int):=⟨fun | .rsl [.i .u8] n=>some n | _=>none,.rsl [.i .u8],fun x a h=>by split at h<;>cases h;rfl⟩
structure WfP (L:List Int):Prop where
 len:L.length≤15
 by' : ∃X,L=toBl X
def wfV (L:List Int):Int:=wfL (toSl L)
theorem wfV_to (X:List UInt8):wfV (toBl X)=wfL X:=by unfold wfV;rw [toS_toB]
theorem wfV_suc {X:List UInt8} {k:Int} (h0:0≤k) (h:k<X.length):wfL (X.take (k+1).toNat)=wfL (X.take k.toNat)*wdF (X.getD k.toNat 0):=by
 rw [show (k+1).toNat =k.toNat+1 by omega,wfL_step (by omega),List.getD_eq_getElem?_getD,List.getElem?_eq_getElem (by omega)];rfl
theorem wf_tk {X:List UInt8} (k:Nat):(toBl X).take k=toBl (X.take k):=by simp [toBl]
theorem wd_of {c:UInt8} : wdF c=if (c.toNat:Int)=100 then 2 else if (c.toNat:Int)=116 then 3 else 1:=by
 unfold wdF
 have h1:(c==100)=decide ((c.toNat:Int)=100):=by rw [←byte_is (m:=100) rfl];rfl
 have h2:(c==116)=decide ((c.toNat:Int)=116):=by rw [←byte_is (m:=116) rfl];rfl
 rw [h1,h2];simp only [decide_eq_true_eq]
def sp_i_wordFactor (p:Pr):FSpec:=fsp (a1 aR8) (fun L=>WfP L) (fun L=>.i .i64 (wfV L))
theorem ok_i_wordFactor:FOk Tryz.prog 264 (sp_i_wordFactor std):=by
 refine FOk.go (c:=cx std [] [] 0) (cx_ok .nil .nil) mixed Tryz.func264 rfl rfl rfl (by kernel_rfl) ?_
 rintro L hp
 refine⟨rfl,?_⟩
 obtain⟨H,hH⟩ : ∃H:Hd (Int×Int),H=⟨fun (k,m)=>0≤k∧k≤L.length∧m=wfV (L.take k.toNat),fun (k,m)=>(L.length-k).toNat,(· < ·)⟩:=⟨_,rfl⟩
 have hl : ∀m n,H.lt m n→m<n:=by subst hH;exact fun _ _ h=>h
 generalize hP:std=p,hB0:wfV=B0
 cbv
 repeat' first
  | (refine fun (_:Unit)=>?_;cbv)
  | (refine Or.inr ⟨8,[],[.s 7 (.i .i64),.s 2 (.i .i64)],[],[],H,rfl,hl,?_,fun ((k,m):Int×Int) hk=>?_⟩<;>cbv)
  | (refine aI2 (fun h=>?_) (fun h=>?_)<;>cbv)
  | (refine aI2 ?_ ?_)
 all_goals subst hP hB0 hH
 all_goals clear hl
 all_goals try dsimp only at hk
 all_goals try dsimp only
 all_goals try exact fin
 all_goals obtain⟨hl,X,rfl⟩:=hp
 all_goals have hl:X.length≤15:=by rw [toB_len] at hl;exact hl
 ·refine⟨Int.le_refl 0,Int.natCast_nonneg _,?_⟩
  show (1:Int)=wfL []
  rfl
 all_goals obtain⟨q0,q1,rfl⟩:=hk
 all_goals have q1:k≤((toBl X).length : Int):=q1
 all_goals rw [toB_len] at q1
 all_goals have hb:=wfL_bd hl k.toNat
 all_goals have em:wfV ((toBl X).take k.toNat)=wfL (X.take k.toNat):=by rw [wf_tk,wfV_to]
 all_goals try (have hlt:k<((toBl X).length : Int):=lt_of ‹_›;rw [toB_len] at hlt;have hs:=wfV_suc q0 hlt)
 all_goals have hw:=wd_of (c:=X.getD k.toNat 0)
 all_goals have e1:wfV ((toBl X).take (k+1).toNat)=wfL (X.take (k+1).toNat):=by rw [wf_tk,wfV_to]
 all_goals have e2:((toBl X).getD k.toNat 0)=((X.getD k.toNat 0).toNat : Int):=toB_get X k.toNat
 ·exact in64 (by show _≤wfV ((toBl X).take k.toNat)*2∧wfV ((toBl X).take k.toNat)*2≤_;omega)
 ·exact in64 (by show _≤k+1∧k+1≤_;omega)
 ·refine⟨by show 0≤k+1;omega,by show k+1≤((toBl X).length : Int);rw [toB_len];omega,?_⟩
  have h1:(toBl X).getD k.toNat 0=100:=by have:=(show std.eqI ((toBl X).getD k.toNat 0) 100=true by assumption);simpa using this
  rw [e2] at h1
  rw [if_pos h1] at hw
  show wfV ((toBl X).take k.toNat)*2=wfV ((toBl X).take (k+1).toNat)
  rw [e1,hs,hw,em]
 ·exact in64 (by show _≤wfV ((toBl X).take k.toNat)*3∧wfV ((toBl X).take k.toNat)*3≤_;omega)
 ·exact in64 (by show _≤k+1∧k+1≤_;omega)
 ·refine⟨by show 0≤k+1;omega,by show k+1≤((toBl X).length : Int);rw [toB_len];omega,?_⟩
  have h1 : ¬(toBl X).getD k.toNat 0=100:=by have:=(show std.eqI ((toBl X).getD k.toNat 0) 100=false by assumption);simpa using this
  have h2:(toBl X).getD k.toNat 0=116:=by have:=(show std.eqI ((toBl X).getD k.toNat 0) 116=true by assumption);simpa using this
  rw [e2] at h1 h2
  rw [if_neg h1,if_pos h2] at hw
  show wfV ((toBl X).take k.toNat)*3=wfV ((toBl X).take (k+1).toNat)
  rw [e1,hs,hw,em]
 ·exact in64 (by show _≤k+1∧k+1≤_;omega)
 ·refine⟨by show 0≤k+1;omega,by show k+1≤((toBl X).length : Int);rw [toB_len];omega,?_⟩
  have h1 : ¬(toBl X).getD k.toNat 0=100:=by have:=(show std.eqI ((toBl X).getD k.toNat 0) 100=false by assumption);simpa using this
  have h2 : ¬(toBl X).getD k.toNat 0=116:=by have:=(show std.eqI ((toBl X).getD k.toNat 0) 116=false by assumption);simpa using this
  rw [e2] at h1 h2
  rw [if_neg h1,if_neg h2] at hw
  show wfV ((toBl X).take k.toNat)=wfV ((toBl X).take (k+1).toNat)
  rw [e1,hs,hw,em,Int.mul_one]
 ·have hge:((toBl X).length : Int)≤k:=ge_of ‹_›
  show wfV ((toBl X).take k.toNat)=wfV (toBl X)
  rw [List.take_of_length_le (by omega)]
structure LsQ (t:TS) (b:Bd) (q:Pl):Prop where
 ts:TsOk t
 vp:VP b q
theorem lsI_len (t:TS) (b:Bd) (q:Pl):(lsI t b q).length =q.word.length:=by unfold lsI;rw [List.length_map,List.length_range]
theorem lsI_at {t:TS} {b:Bd} {q:Pl} {k:Int} (h0:0≤k) (h:k<q.word.length):(lsI t b q).getD k.toNat 0=if b.let_ (q.sr k) (q.sc k) then valT t (q.word.getD k.toNat 0) else ltF (b.prm (q.sr k) (q.sc k))*valT t (q.word.getD k.toNat 0):=by
 unfold lsI
 rw [List.getD_eq_getElem?_getD,List.getElem?_map,List.getElem?_range (by omega)]
 show (if b.let_ (q.sr ((k.toNat:Nat):Int)) (q.sc ((k.toNat:Nat):Int)) then _ else ltF (b.prm (q.sr ((k.toNat:Nat):Int)) (q.sc ((k.toNat:Nat):Int)))*_)=_
 rw [show ((k.toNat:Nat):Int)=k from by omega]
theorem u8_cast (c:UInt8):u8 (c.toNat:Int)=c:=by simp [u8]
theorem lsc_at (t:TS) (s:List UInt8) (b:Bd) (k r c:Int):lscI t (std.byte s k) (prmV b r c)=ltF (b.prm r c)*valT t (s.getD k.toNat 0):=by
 unfold lscI prmV
 rw [u8_byte,u8_cast]
theorem lsc_dot (t:TS) (s:List UInt8) (k:Int):lscI t (std.byte s k) 46=valT t (s.getD k.toNat 0):=by
 unfold lscI
 rw [u8_byte,show u8 46=46 from rfl,show ltF 46=1 from rfl,Int.one_mul]
theorem prm_in (b:Bd) (r c:Int):std.inK .u8 (prmV b r c):=by
 have:=u8_lt (b.prm r c)
 exact⟨this.1,by show prmV b r c≤255;unfold prmV;omega⟩
theorem on_k {b:Bd} {q:Pl} {k:Int} (hp:VP b q) (h0:0≤k) (h:k<q.word.length):b.inB (q.sr k) (q.sc k)=true:=by
 have:=hp.on k.toNat (by omega)
 rwa [show ((k.toNat:Nat):Int)=k from by omega] at this
def sp_i_letterScores (p:Pr):FSpec:=fsp (ac (aA aTs) (ac (aA aBd) (a1 (aA aPl)))) (fun (t,b,q)=>LsQ t b q) (fun (t,b,q)=>.rsl [.i .i64] (lsI t b q))
def sp_i_letterScores_o (p:Pr):FSpec:=fsp (ac (aA aTs) (ac (aA aBd) (a1 (aA aPl)))) (fun (t,b,q)=>LsQ t b q) (fun (t,b,q)=>.osl 0) (fun (t,b,q)=>[(0,.own [.i .i64] (lsI t b q) 2)])
theorem ok_i_letterScores_o:FOk Tryz.prog 263 (sp_i_letterScores_o std):=by
 refine FOk.go (c:=cx std [(211,sp_i_Play_square std),(258,sp_i_Board_on std),(266,sp_i_Board_premium std),(267,sp_lsc std)] [] 0) (cx_ok (.cons ok_i_Play_square (.cons ok_i_Board_on (.cons ok_i_Board_premium (.cons ok_lsc .nil)))) .nil) mixed Tryz.func263 rfl rfl rfl (by kernel_rfl) ?_
 rintro ⟨t,b,q⟩ hp
 dsimp only at hp
 refine⟨rfl,?_⟩
 unfold sp_i_Play_square sp_i_Board_on sp_i_Board_premium sp_lsc
 obtain⟨H,hH⟩ : ∃H:Hd (Int×List Int),H=⟨fun (k,L)=>0≤k∧k≤q.word.length∧L=(lsI t b q).take k.toNat,fun (k,L)=>(q.word.length-k).toNat,(· < ·)⟩:=⟨_,rfl⟩
 have hl : ∀m n,H.lt m n→m<n:=by subst hH;exact fun _ _ h=>h
 generalize hP:std=p,hB0:lsI=B0,hB1:srI=B1,hB2:scI=B2,hB3:Bd.let_=B3,hB4:Bd.inB=B4,hB5:prmV=B5,hB6:lscI=B6
 cbv
 repeat' first
  | (refine fun (_:Unit)=>?_;cbv)
  | (refine Or.inr ⟨15,[],[.c 4 0 (.i .i64),.o 3 [.i .i64]],[.s 7],[],H,rfl,hl,?_,fun ((k,L):Int×List Int) hk=>?_⟩<;>cbv)
  | (refine aI2 (fun h=>?_) (fun h=>?_)<;>cbv)
  | (refine aI2 ?_ ?_)
 all_goals subst hP hB0 hB1 hB2 hB3 hB4 hB5 hB6 hH
 all_goals clear hl
 all_goals try dsimp only at hk
 all_goals try dsimp only
 all_goals try exact fin
 all_goals try simp only [eta_bd,eta_pl,eta_ts] at *
 ·exact asc_of hp.vp.lett
 all_goals obtain⟨q0,q1,rfl⟩:=hk
 all_goals have q1:k≤(q.word.length:Int):=q1
 all_goals have a1:=hp.vp.r
 all_goals have a2:=hp.vp.c
 all_goals have a3:=hp.vp.hi
 all_goals have hll:=lsI_len t b q
 all_goals have hl2:((lsI t b q).take k.toNat).length ≤q.word.length:=by rw [List.length_take];omega
 all_goals try (have hlt:k<(q.word.length:Int):=lt_of ‹_›;have h2:=lsI_at (t:=t) (b:=b) q0 hlt)
 ·exact sqP_of (by omega) (by omega) (by omega)
 ·exact on_k hp.vp q0 hlt
 ·exact prm_in b _ _
 ·show (((lsI t b q).take k.toNat).length : Int)+1≤_
  omega
 ·refine⟨by show 0≤k+1;omega,by show k+1≤(q.word.length:Int);omega,?_⟩
  rw [lsc_at]
  show (lsI t b q).take k.toNat++[ltF (b.prm (q.sr k) (q.sc k))*valT t (q.word.getD k.toNat 0)]=(lsI t b q).take (k+1).toNat
  rw [tk q0 (by rw [hll];exact hlt) 0,h2,if_neg]
  have : b.let_ (srI q k) (scI q k)=false:=by assumption
  rw [show b.let_ (q.sr k) (q.sc k)=false from this];simp
 ·show (((lsI t b q).take k.toNat).length : Int)+1≤_
  omega
 ·refine⟨by show 0≤k+1;omega,by show k+1≤(q.word.length:Int);omega,?_⟩
  rw [lsc_dot]
  show (lsI t b q).take k.toNat++[valT t (q.word.getD k.toNat 0)]=(lsI t b q).take (k+1).toNat
  rw [tk q0 (by rw [hll];exact hlt) 0,h2,if_pos]
  have : b.let_ (srI q k) (scI q k)=true:=by assumption
  exact this
 ·rw [tk_all (by rw [hll];exact ge_of ‹_›)]
theorem ok_i_letterScores:FOk Tryz.prog 263 (sp_i_letterScores std):=FOk.frz ok_i_letterScores_o fun ⟨t,b,q⟩=>⟨by simp [deep,deeps,AH.get],by simp [PV.idIn,idInL]⟩
theorem pus_len (b:Bd) (q:Pl):(pusI b q).length =(nsI b q).length :=by unfold pusI;rw [List.length_map,ns_len]
theorem pus_suc {b:Bd} {q:Pl} {k:Int} (h0:0≤k) (h:k<(nsI b q).length):toBl ((pusI b q).take k.toNat)++[prmV b ((nsI b q).getD k.toNat (0,0)).1 ((nsI b q).getD k.toNat (0,0)).2]=toBl ((pusI b q).take (k+1).toNat):=by
 obtain⟨n, -,h2,h3⟩:=ns_at h0 h
 rw [h2]
 unfold pusI
 rw [←List.map_take,←List.map_take,h3]
 simp [toBl,prmV]
def sp_i_premiumsUsed (p:Pr):FSpec:=fsp (ac (aA aBd) (a1 (aA aPl))) (fun (b,q)=>VP b q) (fun (b,q)=>.rsl [.i .u8] (toBl (pusI b q)))
def sp_i_premiumsUsed_o (p:Pr):FSpec:=fsp (ac (aA aBd) (a1 (aA aPl))) (fun (b,q)=>VP b q) (fun (b,q)=>.osl 0) (fun (b,q)=>[(0,.own [.i .u8] (toBl (pusI b q)) 5)])
theorem ok_i_premiumsUsed_o:FOk Tryz.prog 265 (sp_i_premiumsUsed_o std):=by
 refine FOk.go (c:=cx std [(203,sp_i_newSquares std),(266,sp_i_Board_premium std)] [] 0) (cx_ok (.cons ok_i_newSquares (.cons ok_i_Board_premium .nil)) .nil) mixed Tryz.func265 rfl rfl rfl (by kernel_rfl) ?_
 rintro ⟨b,q⟩ hp
 dsimp only at hp
 refine⟨rfl,?_⟩
 unfold sp_i_newSquares sp_i_Board_premium
 obtain⟨H,hH⟩ : ∃H:Hd (Int×List Int),H=⟨fun (k,L)=>0≤k∧k≤(nsI b q).length ∧L=toBl ((pusI b q).take k.toNat),fun (k,L)=>((nsI b q).length - k).toNat,(· < ·)⟩:=⟨_,rfl⟩
 have hl : ∀m n,H.lt m n→m<n:=by subst hH;exact fun _ _ h=>h
 generalize hP:std=p,hB0:toBl=B0,hB1:pusI=B1,hB2:nsI=B2,hB3:prmV=B3,hB4:Bd.inB=B4
 cbv
 repeat' first
  | (refine fun (_:Unit)=>?_;cbv)
  | (refine Or.inr ⟨20,[],[.s 19 (.i .i64),.o 2 [.i .u8]],[.s 7],[],H,rfl,hl,?_,fun ((k,L):Int×List Int) hk=>?_⟩<;>cbv)
  | (refine aI2 (fun h=>?_) (fun h=>?_)<;>cbv)
  | (refine aI2 ?_ ?_)
 all_goals subst hP hB0 hB1 hB2 hB3 hB4 hH
 all_goals clear hl
 all_goals try dsimp only at hk
 all_goals try dsimp only
 all_goals try exact fin
 all_goals try simp only [eta_bd,eta_pl] at *
 ·exact⟨Int.le_refl 0,Int.natCast_nonneg _,rfl⟩
 all_goals obtain⟨q0,q1,rfl⟩:=hk
 all_goals have q1:k≤((nsI b q).length : Int):=q1
 all_goals have hn:=newTo_length b q q.word.length
 all_goals have hn:(newL b q).length ≤q.word.length:=hn
 all_goals have hnl:=ns_len (b:=b) (q:=q)
 all_goals have hpl:=pus_len b q
 all_goals have a3:=hp.hi
 all_goals try (have hlt:k<((nsI b q).length : Int):=lt_of ‹_›)
 ·exact ns_in hp q0 hlt
 ·show ((toBl ((pusI b q).take k.toNat)).length : Int)+1≤_
  rw [toB_len,List.length_take];omega
 ·exact in64 (by show _≤k+1∧k+1≤_;omega)
 ·exact⟨by show 0≤k+1;omega,by show k+1≤((nsI b q).length : Int);omega,pus_suc q0 hlt⟩
 ·have hge:((nsI b q).length : Int)≤k:=ge_of ‹_›
  rw [List.take_of_length_le (by omega)]
theorem ok_i_premiumsUsed:FOk Tryz.prog 265 (sp_i_premiumsUsed std):=FOk.frz ok_i_premiumsUsed_o fun ⟨b,q⟩=>⟨by simp [deep,deeps,AH.get],by simp [PV.idIn,idInL]⟩
end Ax
namespace Ax
set_option maxRecDepth 100000
set_option maxHeartbeats 2000000
def partJ (t:TS) (b:Bd) (q:Pl) (j:Int):List Int:=((lsI t b q).sum * wfL (pusI b q))::((crossP b q (newL b q)).take j.toNat).map (crI t b q)
def cqS (t:TS) (b:Bd) (q:Pl) (j k:Int):Int:=(((crSq b q j).take k.toNat).map (sqI t b (madeB b q) ((crS1 b q).getD j.toNat (0,0)))).sum
section
variable {t:TS} {b:Bd} {q:Pl} {j k:Int}
theorem cr1_len:(crS1 b q).length =(crS2 b q).length :=by unfold crS1 crS2;rw [List.length_map,List.length_map]
theorem cr1_in (hp:VP b q) (h0:0≤j) (h:j<(crS2 b q).length):b.inB ((crS1 b q).getD j.toNat (0,0)).1 ((crS1 b q).getD j.toNat (0,0)).2=true:=by
 have h1:j.toNat<(crS1 b q).length :=by rw [cr1_len];omega
 rw [List.getD_eq_getElem?_getD,List.getElem?_eq_getElem h1]
 obtain⟨x,h2,h3⟩:=List.mem_map.1 (List.getElem_mem h1)
 show b.inB ((crS1 b q)[j.toNat]).1 ((crS1 b q)[j.toNat]).2=true
 rw [←h3]
 unfold crossP at h2
 obtain⟨s,h4,rfl⟩:=List.mem_map.1 (List.mem_filter.1 h2).1
 unfold sqL at h4
 obtain⟨n,h5,rfl⟩:=List.mem_map.1 h4
 unfold newL newTo at h5
 exact hp.on n (List.mem_range.1 (List.mem_filter.1 h5).1)
theorem sqI_bd (h:TsOk t) (M:Bd) (a s:Int×Int):0≤sqI t b M a s∧sqI t b M a s≤60:=by
 unfold sqI
 have h1:=h.lo (M.cell s.1 s.2)
 have h2:=h.hi (M.cell s.1 s.2)
 have h3:=ltF_bd (b.prm a.1 a.2)
 split
 ·have h4:=Int.mul_nonneg (show 0≤ltF (b.prm a.1 a.2) by omega) h1
  have h5:=Int.mul_le_mul h3.2 h2 h1 (by decide)
  omega
 ·omega
theorem lsI_bd (h:TsOk t) : ∀x∈lsI t b q,0≤x∧x≤60:=by
 intro x hx
 obtain⟨i, -,rfl⟩:=List.mem_map.1 hx
 have h1:=h.lo (q.word.getD i 0)
 have h2:=h.hi (q.word.getD i 0)
 have h3:=ltF_bd (b.prm (q.sr i) (q.sc i))
 split
 ·omega
 ·have h4:=Int.mul_nonneg (show 0≤ltF (b.prm (q.sr i) (q.sc i)) by omega) h1
  have h5:=Int.mul_le_mul h3.2 h2 h1 (by decide)
  omega
theorem cqS_suc (h0:0≤k) (h:k<(crSq b q j).length):cqS t b q j (k+1)=cqS t b q j k+sqI t b (madeB b q) ((crS1 b q).getD j.toNat (0,0)) ((crSq b q j).getD k.toNat (0,0)):=by
 unfold cqS
 rw [tk h0 h (0,0),List.map_append,List.sum_append]
 simp
theorem cqS_bd (h:TsOk t) (h0:0≤k):0≤cqS t b q j k∧cqS t b q j k≤60*32:=by
 have h1:=sum_bd (M:=60) (((crSq b q j).take k.toNat).map (sqI t b (madeB b q) ((crS1 b q).getD j.toNat (0,0)))) (fun x hx=>by
  obtain⟨s, -,rfl⟩:=List.mem_map.1 hx
  exact sqI_bd h _ _ _)
 have h2:(crSq b q j).length ≤32:=cr2_at j.toNat
 rw [List.length_map,List.length_take] at h1
 unfold cqS
 omega
theorem cqS_end (h0:0≤j) (hj:j<(crS2 b q).length) (h:((crSq b q j).length : Int)≤k):cqS t b q j k*wfL [b.prm ((crS1 b q).getD j.toNat (0,0)).1 ((crS1 b q).getD j.toNat (0,0)).2]=crI t b q ((crossP b q (newL b q)).getD j.toNat ((0,0),[])):=by
 have h1:j.toNat<(crossP b q (newL b q)).length :=by unfold crS2 at hj;rw [List.length_map] at hj;omega
 unfold cqS crI crSq crS1 crS2
 have e1:((crossP b q (newL b q)).map (·.1)).getD j.toNat (0,0)=((crossP b q (newL b q)).getD j.toNat ((0,0),[])).1:=by
  rw [List.getD_eq_getElem?_getD,List.getElem?_map,List.getElem?_eq_getElem h1,List.getD_eq_getElem?_getD,List.getElem?_eq_getElem h1];rfl
 have e2:((crossP b q (newL b q)).map (·.2)).getD j.toNat []=((crossP b q (newL b q)).getD j.toNat ((0,0),[])).2:=by
  rw [List.getD_eq_getElem?_getD,List.getElem?_map,List.getElem?_eq_getElem h1,List.getD_eq_getElem?_getD,List.getElem?_eq_getElem h1];rfl
 have e3:(crSq b q j).take k.toNat=crSq b q j:=List.take_of_length_le (by omega)
 unfold crSq crS2 at e3
 rw [e3,e1,e2]
theorem partJ_suc (h0:0≤j) (h:j<(crS2 b q).length):partJ t b q (j+1)=partJ t b q j++[crI t b q ((crossP b q (newL b q)).getD j.toNat ((0,0),[]))]:=by
 have h1:j<(crossP b q (newL b q)).length :=by unfold crS2 at h;rw [List.length_map] at h;omega
 unfold partJ
 rw [tk h0 h1 ((0,0),[]),List.map_append];rfl
theorem partJ_end (h:((crS2 b q).length : Int)≤j):partJ t b q j=partsI t b q:=by
 unfold partJ partsI
 rw [List.take_of_length_le (by unfold crS2 at h;rw [List.length_map] at h;omega)]
theorem partJ_len (hp:VP b q):(partJ t b q j).length ≤13:=by
 have:=cr2_len hp
 unfold crS2 at this
 rw [List.length_map] at this
 unfold partJ
 rw [List.length_cons,List.length_map,List.length_take];omega
theorem pus_len' (hp:VP b q):(pusI b q).length ≤12:=by
 have hn:=newTo_length b q q.word.length
 have hw:=hp.hi
 unfold pusI newL
 rw [List.length_map];omega
theorem main_bd (h:TsOk t) (hp:VP b q):0≤(lsI t b q).sum * wfL (pusI b q)∧(lsI t b q).sum * wfL (pusI b q)≤720*14348907:=by
 have h1:=sum_bd (lsI t b q) (lsI_bd (b:=b) (q:=q) h)
 have h2:=wfL_all (l:=pusI b q) (by have:=pus_len' hp;omega)
 have h3:=lsI_len t b q
 have h4:=hp.hi
 have h5:=Int.mul_nonneg h1.1 (show 0≤wfL (pusI b q) by omega)
 have h6:(lsI t b q).sum * wfL (pusI b q)≤720*14348907:=Int.mul_le_mul (by omega) h2.2 (by omega) (by omega)
 exact⟨h5,h6⟩
theorem wf1 (c:UInt8):wfL [c]=wdF c:=by simp [wfL]
theorem crI_bd (h:TsOk t) (x:(Int×Int)×List (Int×Int)) (hx:x.2.length≤32):0≤crI t b q x∧crI t b q x≤5760:=by
 have h1:=sum_bd (M:=60) (x.2.map (sqI t b (madeB b q) x.1)) (fun y hy=>by
  obtain⟨s, -,rfl⟩:=List.mem_map.1 hy
  exact sqI_bd h _ _ _)
 rw [List.length_map] at h1
 have h2:=wdF_bd (b.prm x.1.1 x.1.2)
 unfold crI
 rw [wf1]
 have h3:=Int.mul_nonneg h1.1 (show 0≤wdF (b.prm x.1.1 x.1.2) by omega)
 have h4:(x.2.map (sqI t b (madeB b q) x.1)).sum * wdF (b.prm x.1.1 x.1.2)≤1920*3:=Int.mul_le_mul (by omega) h2.2 (by omega) (by omega)
 omega
theorem partsI_bd (h:TsOk t) (hp:VP b q) : ∀x∈partsI t b q,0≤x∧x≤720*14348907:=by
 intro x hx
 rcases List.mem_cons.1 hx with rfl | hx
 ·exact main_bd h hp
 ·obtain⟨y,h1,rfl⟩:=List.mem_map.1 hx
  have:=crI_bd (b:=b) (q:=q) h y (crossP_seq b q _ y h1)
  omega
theorem cq_let {x:UInt8} : std.inK .u8 (x.toNat:Int):=by
 have:=u8_lt x
 exact⟨this.1,by show (x.toNat:Int)≤255;omega⟩
theorem sq_eq {s a:Int×Int} {x:Bool} (h:std.and (std.eqI s.1 a.1) (std.eqI s.2 a.2)=x):(s==a)=x:=by
 rw [←h];rfl
theorem sqI_yes {M:Bd} {s a:Int×Int} (h:(s==a)=true):sqI t b M a s=lscI t (celV M s.1 s.2) (prmV b a.1 a.2):=by
 unfold sqI lscI celV prmV
 rw [if_pos h,u8_cast,u8_cast]
theorem sqI_no {M:Bd} {s a:Int×Int} (h:(s==a)=false):sqI t b M a s=valT t (u8 (celV M s.1 s.2)):=by
 unfold sqI celV
 rw [if_neg (by rw [h];simp),u8_cast]
theorem wfV_one (b:Bd) (r c:Int):wfV [prmV b r c]=wfL [b.prm r c]:=by
 rw [←wfV_to];rfl
theorem crI_bd' (h:TsOk t) (h0:0≤j) (hj:j<(crS2 b q).length):0≤crI t b q ((crossP b q (newL b q)).getD j.toNat ((0,0),[]))∧crI t b q ((crossP b q (newL b q)).getD j.toNat ((0,0),[]))≤5760:=by
 have h1:j.toNat<(crossP b q (newL b q)).length :=by unfold crS2 at hj;rw [List.length_map] at hj;omega
 rw [List.getD_eq_getElem?_getD,List.getElem?_eq_getElem h1]
 exact crI_bd h _ (crossP_seq b q _ _ (List.getElem_mem h1))
end
def sp_i_scoreParts (p:Pr):FSpec:=fsp (ac (aA aTs) (ac (aA aBd) (a1 (aA aPl)))) (fun (t,b,q)=>LsQ t b q) (fun (t,b,q)=>.rsl [.i .i64] (partsI t b q))
def sp_i_scoreParts_o (p:Pr):FSpec:=fsp (ac (aA aTs) (ac (aA aBd) (a1 (aA aPl)))) (fun (t,b,q)=>LsQ t b q) (fun (t,b,q)=>.osl 0) (fun (t,b,q)=>[(0,.own [.i .i64] (partsI t b q) 2)])
theorem ok_i_scoreParts_o:FOk Tryz.prog 207 (sp_i_scoreParts_o std):=by
 refine FOk.go (c:=cx std [(263,sp_i_letterScores std),(265,sp_i_premiumsUsed std),(264,sp_i_wordFactor std),(119,sp_i_made std),(261,sp_i_crossings std),(266,sp_i_Board_premium std),(259,sp_i_Board_cell std),(267,sp_lsc std),(252,sp_i_valueOf std)] [] 0) (cx_ok (.cons ok_i_letterScores (.cons ok_i_premiumsUsed (.cons ok_i_wordFactor (.cons ok_i_made (.cons ok_i_crossings (.cons ok_i_Board_premium (.cons ok_i_Board_cell (.cons ok_lsc (.cons ok_i_valueOf .nil))))))))) .nil) mixed Tryz.func207 rfl rfl rfl (by kernel_rfl) ?_
 rintro ⟨t,b,q⟩ hp
 dsimp only at hp
 refine⟨rfl,?_⟩
 unfold sp_i_letterScores sp_i_premiumsUsed sp_i_wordFactor sp_i_made sp_i_crossings sp_i_Board_premium sp_i_Board_cell sp_lsc sp_i_valueOf
 obtain⟨H,hH⟩ : ∃H:Hd (Int×Int),H=⟨fun (k,m)=>0≤k∧k≤(lsI t b q).length ∧m=((lsI t b q).take k.toNat).sum,fun (k,m)=>((lsI t b q).length - k).toNat,(· < ·)⟩:=⟨_,rfl⟩
 have hl : ∀m n,H.lt m n→m<n:=by subst hH;exact fun _ _ h=>h
 obtain⟨H2,hH2⟩ : ∃H:Hd (Int×List Int),H=⟨fun (j,L)=>0≤j∧j≤(crS2 b q).length ∧L=partJ t b q j,fun (j,L)=>((crS2 b q).length - j).toNat,(· < ·)⟩:=⟨_,rfl⟩
 have hl2 : ∀m n,H2.lt m n→m<n:=by subst hH2;exact fun _ _ h=>h
 obtain⟨H3,hH3⟩ : ∃H:(Int×List Int)→Hd (Int×Int),H=fun (j,L)=>⟨fun (k,m)=>0≤k∧k≤(crSq b q j).length ∧m=cqS t b q j k,fun (k,m)=>((crSq b q j).length - k).toNat,(· < ·)⟩:=⟨_,rfl⟩
 have hl3 : ∀x m n,(H3 x).lt m n→m<n:=by subst hH3;exact fun _ _ _ h=>h
 generalize hP:std=p,hB0:partsI=B0,hB1:lsI=B1,hB2:pusI=B2,hB3:wfV=B3,hB4:crS1=B4,hB5:crS2=B5,hB6:crSq=B6,hB7:madeB=B7,hB8:prmV=B8,hB9:celV=B9,hB10:lscI=B10,hB11:valT=B11,hB12:Bd.inB=B12,hB13:toBl=B13,hB14:u8=B14
 cbv
 repeat' first
  | (refine fun (_:Unit)=>?_;cbv)
  | (refine Or.inr ⟨26,[],[.s 25 (.i .i64),.s 7 (.i .i64)],[],[],H,rfl,hl,?_,fun ((k,m):Int×Int) hk=>?_⟩<;>cbv)
  | (refine Or.inr ⟨52,[],[.s 51 (.i .i64),.o 3 [.i .i64]],[.s 10],[],H2,rfl,hl2,?_,fun ((j,L):Int×List Int) hk2=>?_⟩<;>cbv)
  | (refine Or.inr ⟨71,[],[.s 70 (.i .i64),.s 17 (.i .i64)],[],[],H3 (j,L),rfl,hl3 _,?_,fun ((k,m):Int×Int) hk3=>?_⟩<;>cbv)
  | (refine aI2 (fun h=>?_) (fun h=>?_)<;>cbv)
  | (refine aI2 ?_ ?_)
 all_goals subst hP hB0 hB1 hB2 hB3 hB4 hB5 hB6 hB7 hB8 hB9 hB10 hB11 hB12 hB13 hB14 hH hH2 hH3
 all_goals clear hl
 all_goals try dsimp only at hk
 all_goals clear hl2
 all_goals try dsimp only at hk2
 all_goals clear hl3
 all_goals try dsimp only at hk3
 all_goals try dsimp only
 all_goals try exact fin
 all_goals try simp only [eta_bd,eta_pl,eta_ts] at *
 all_goals obtain⟨q0,q1,rfl⟩:=hk
 all_goals have hls:=lsI_len t b q
 all_goals have hw:=hp.vp.hi
 all_goals have hcl:=cr2_len hp.vp
 all_goals have hc1:=cr1_len (b:=b) (q:=q)
 all_goals have hM:(madeB b q).Fit :=made_fit hp.vp
 all_goals have hts:=hp.ts
 ·have q1:k≤((lsI t b q).length : Int):=q1
  have hlt:k<((lsI t b q).length : Int):=lt_of ‹_›
  have h5:=sum_tk_bd (lsI_bd (b:=b) (q:=q) hp.ts) (by decide) (k:=k+1) (by omega)
  rw [sum_tk q0 hlt] at h5
  exact in64 (by show _≤((lsI t b q).take k.toNat).sum + (lsI t b q).getD k.toNat 0∧((lsI t b q).take k.toNat).sum + (lsI t b q).getD k.toNat 0≤_;omega)
 ·have hlt:k<((lsI t b q).length : Int):=lt_of ‹_›
  exact in64 (by show _≤k+1∧k+1≤_;omega)
 ·have hlt:k<((lsI t b q).length : Int):=lt_of ‹_›
  exact⟨by show 0≤k+1;omega,by show k+1≤((lsI t b q).length : Int);omega,(sum_tk q0 hlt).symm⟩
 ·exact⟨by rw [toB_len];have:=pus_len' hp.vp;omega,_,rfl⟩
 ·have hge:((lsI t b q).length : Int)≤k:=ge_of ‹_›
  have hm:=main_bd hp.ts hp.vp
  rw [tk_all hge,wfV_to]
  exact in64 (by show _≤(lsI t b q).sum * wfL (pusI b q)∧(lsI t b q).sum * wfL (pusI b q)≤_;omega)
 ·have hge:((lsI t b q).length : Int)≤k:=ge_of ‹_›
  rw [tk_all hge,wfV_to]
  exact⟨Int.le_refl 0,Int.natCast_nonneg _,rfl⟩
 all_goals obtain⟨p0,p1,rfl⟩:=hk2
 all_goals have p1:j≤((crS2 b q).length : Int):=p1
 all_goals have hpl:=partJ_len (t:=t) (j:=j) hp.vp
 all_goals have hsl:(crSq b q j).length ≤32:=cr2_at j.toNat
 all_goals try (have hj:j<((crS2 b q).length : Int):=lt_of ‹_›;have hin:=cr1_in hp.vp p0 hj)
 ·exact⟨p0,by show j<((crS1 b q).length : Int);omega⟩
 ·exact⟨p0,by show j<((crS1 b q).length : Int);omega⟩
 ·exact hin
 ·exact⟨Int.le_refl 0,Int.natCast_nonneg _,rfl⟩
 all_goals try (obtain⟨r0,r1,rfl⟩:=hk3)
 all_goals try (have r1:k≤((crSq b q j).length : Int):=r1)
 all_goals try (have hlt:k<((crSq b q j).length : Int):=lt_of ‹_›)
 all_goals try (have hbd:=cqS_bd (b:=b) (q:=q) (j:=j) (k:=k) hts r0)
 all_goals try (have hbd1:=cqS_bd (b:=b) (q:=q) (j:=j) (k:=k+1) hts (by omega);have hsu:=cqS_suc (t:=t) r0 hlt)
 ·exact⟨r0,hlt⟩
 ·exact⟨p0,by show j<((crS1 b q).length : Int);omega⟩
 ·exact hM
 ·exact cq_let
 ·exact prm_in b _ _
 ·have h1:=sq_eq (s:=(crSq b q j).getD k.toNat (0,0)) (a:=(crS1 b q).getD j.toNat (0,0)) ‹_›
  have h2:=sqI_yes (t:=t) (b:=b) (M:=madeB b q) h1
  rw [hsu,h2] at hbd1
  exact in64 (by show _≤cqS t b q j k+lscI t (celV (madeB b q) ((crSq b q j).getD k.toNat (0,0)).1 ((crSq b q j).getD k.toNat (0,0)).2) (prmV b ((crS1 b q).getD j.toNat (0,0)).1 ((crS1 b q).getD j.toNat (0,0)).2)∧cqS t b q j k+lscI t (celV (madeB b q) ((crSq b q j).getD k.toNat (0,0)).1 ((crSq b q j).getD k.toNat (0,0)).2) (prmV b ((crS1 b q).getD j.toNat (0,0)).1 ((crS1 b q).getD j.toNat (0,0)).2)≤_;omega)
 ·exact in64 (by show _≤k+1∧k+1≤_;omega)
 ·have h1:=sq_eq (s:=(crSq b q j).getD k.toNat (0,0)) (a:=(crS1 b q).getD j.toNat (0,0)) ‹_›
  have h2:=sqI_yes (t:=t) (b:=b) (M:=madeB b q) h1
  rw [h2] at hsu
  exact⟨by show 0≤k+1;omega,by show k+1≤((crSq b q j).length : Int);omega,hsu.symm⟩
 ·show (((crSq b q j).length : Int)-(k+1)).toNat < (((crSq b q j).length : Int)-k).toNat
  omega
 ·exact hM
 ·exact cq_let
 ·have h1:=sq_eq (s:=(crSq b q j).getD k.toNat (0,0)) (a:=(crS1 b q).getD j.toNat (0,0)) ‹_›
  have h2:=sqI_no (t:=t) (b:=b) (M:=madeB b q) h1
  rw [hsu,h2] at hbd1
  exact in64 (by show _≤cqS t b q j k+valT t (u8 (celV (madeB b q) ((crSq b q j).getD k.toNat (0,0)).1 ((crSq b q j).getD k.toNat (0,0)).2))∧cqS t b q j k+valT t (u8 (celV (madeB b q) ((crSq b q j).getD k.toNat (0,0)).1 ((crSq b q j).getD k.toNat (0,0)).2))≤_;omega)
 ·exact in64 (by show _≤k+1∧k+1≤_;omega)
 ·have h1:=sq_eq (s:=(crSq b q j).getD k.toNat (0,0)) (a:=(crS1 b q).getD j.toNat (0,0)) ‹_›
  have h2:=sqI_no (t:=t) (b:=b) (M:=madeB b q) h1
  rw [h2] at hsu
  exact⟨by show 0≤k+1;omega,by show k+1≤((crSq b q j).length : Int);omega,hsu.symm⟩
 ·show (((crSq b q j).length : Int)-(k+1)).toNat < (((crSq b q j).length : Int)-k).toNat
  omega
 ·exact⟨by show 1≤15;omega,[b.prm ((crS1 b q).getD j.toNat (0,0)).1 ((crS1 b q).getD j.toNat (0,0)).2],rfl⟩
 all_goals have hq:=wfV_one b ((crS1 b q).getD j.toNat (0,0)).1 ((crS1 b q).getD j.toNat (0,0)).2
 ·have hge:((crSq b q j).length : Int)≤k:=ge_of ‹_›
  have h1:=cqS_end (t:=t) p0 hj hge
  have h2:=crI_bd' (t:=t) hts p0 hj
  exact in64 (by
   show _≤cqS t b q j k*wfV [prmV b ((crS1 b q).getD j.toNat (0,0)).1 ((crS1 b q).getD j.toNat (0,0)).2]∧cqS t b q j k*wfV [prmV b ((crS1 b q).getD j.toNat (0,0)).1 ((crS1 b q).getD j.toNat (0,0)).2]≤_
   rw [hq,h1];omega)
 ·show ((partJ t b q j).length : Int)+1≤_
  omega
 ·exact in64 (by show _≤j+1∧j+1≤_;omega)
 ·have hge:((crSq b q j).length : Int)≤k:=ge_of ‹_›
  refine⟨by show 0≤j+1;omega,by show j+1≤((crS2 b q).length : Int);omega,?_⟩
  show partJ t b q j++[cqS t b q j k*wfV [prmV b ((crS1 b q).getD j.toNat (0,0)).1 ((crS1 b q).getD j.toNat (0,0)).2]]=partJ t b q (j+1)
  rw [partJ_suc p0 hj,hq,cqS_end p0 hj hge]
 ·rw [partJ_end (ge_of ‹_›)]
theorem ok_i_scoreParts:FOk Tryz.prog 207 (sp_i_scoreParts std):=FOk.frz ok_i_scoreParts_o fun ⟨t,b,q⟩=>⟨by simp [deep,deeps,AH.get],by simp [PV.idIn,idInL]⟩
end Ax
namespace Ax
set_option maxRecDepth 100000
set_option maxHeartbeats 2000000
theorem parts_len {t:TS} {b:Bd} {q:Pl} (hp:VP b q):(partsI t b q).length ≤13:=by
 rw [←partJ_end (j:=((crS2 b q).length : Int)) (Int.le_refl _)];exact partJ_len hp
theorem score_bd {t:TS} {b:Bd} {q:Pl} (h:TsOk t) (hp:VP b q):0≤(partsI t b q).sum ∧(partsI t b q).sum ≤134306167760:=by
 have h1:=sum_bd (partsI t b q) (partsI_bd h hp)
 have h2:=parts_len (t:=t) hp
 omega
theorem sc7 {b:Bd} {q:Pl} (h:std.eqI (std.len (nsI b q)) 7=true):(newL b q).length =7:=by
 have h1:((nsI b q).length : Int)=7:=by simpa using h
 rw [ns_len] at h1;omega
theorem sc7n {b:Bd} {q:Pl} (h:std.eqI (std.len (nsI b q)) 7=false) : ¬(newL b q).length =7:=by
 have h1 : ¬((nsI b q).length : Int)=7:=by simpa using h
 rw [ns_len] at h1;omega
def sp_i_scorePlay (p:Pr):FSpec:=fsp (ac (aA aTs) (ac (aA aBd) (a1 (aA aPl)))) (fun (t,b,q)=>LsQ t b q) (fun (t,b,q)=>.i .i64 (scoreI t b q))
theorem ok_i_scorePlay:FOk Tryz.prog 113 (sp_i_scorePlay std):=by
 refine FOk.go (c:=cx std [(207,sp_i_scoreParts std),(203,sp_i_newSquares std)] [] 0) (cx_ok (.cons ok_i_scoreParts (.cons ok_i_newSquares .nil)) .nil) mixed Tryz.func113 rfl rfl rfl (by kernel_rfl) ?_
 rintro ⟨t,b,q⟩ hp
 dsimp only at hp
 refine⟨rfl,?_⟩
 unfold sp_i_scoreParts sp_i_newSquares
 obtain⟨H,hH⟩ : ∃H:Hd (Int×Int),H=⟨fun (k,m)=>0≤k∧k≤(partsI t b q).length ∧m=((partsI t b q).take k.toNat).sum,fun (k,m)=>((partsI t b q).length - k).toNat,(· < ·)⟩:=⟨_,rfl⟩
 have hl : ∀m n,H.lt m n→m<n:=by subst hH;exact fun _ _ h=>h
 generalize hP:std=p,hB0:scoreI=B0,hB1:partsI=B1,hB2:nsI=B2
 cbv
 repeat' first
  | (refine fun (_:Unit)=>?_;cbv)
  | (refine Or.inr ⟨18,[],[.s 17 (.i .i64),.s 7 (.i .i64)],[],[],H,rfl,hl,?_,fun ((k,m):Int×Int) hk=>?_⟩<;>cbv)
  | (refine aI2 (fun h=>?_) (fun h=>?_)<;>cbv)
  | (refine aI2 ?_ ?_)
 all_goals subst hP hB0 hB1 hB2 hH
 all_goals clear hl
 all_goals try dsimp only at hk
 all_goals try dsimp only
 all_goals try exact fin
 all_goals try simp only [eta_bd,eta_pl,eta_ts] at *
 all_goals obtain⟨q0,q1,rfl⟩:=hk
 all_goals have q1:k≤((partsI t b q).length : Int):=q1
 all_goals have hpb:=score_bd hp.ts hp.vp
 all_goals have hpl:=parts_len (t:=t) hp.vp
 all_goals try (have hge:((partsI t b q).length : Int)≤k:=ge_of ‹_›;have hta:(partsI t b q).take k.toNat=partsI t b q:=tk_all hge)
 ·have hlt:k<((partsI t b q).length : Int):=lt_of ‹_›
  have h5:=sum_tk_bd (partsI_bd hp.ts hp.vp) (by decide) (k:=k+1) (by omega)
  rw [sum_tk q0 hlt] at h5
  exact in64 (by show _≤((partsI t b q).take k.toNat).sum + (partsI t b q).getD k.toNat 0∧((partsI t b q).take k.toNat).sum + (partsI t b q).getD k.toNat 0≤_;omega)
 ·have hlt:k<((partsI t b q).length : Int):=lt_of ‹_›
  exact in64 (by show _≤k+1∧k+1≤_;omega)
 ·have hlt:k<((partsI t b q).length : Int):=lt_of ‹_›
  exact⟨by show 0≤k+1;omega,by show k+1≤((partsI t b q).length : Int);omega,(sum_tk q0 hlt).symm⟩
 ·rw [hta]
  exact in64 (by show _≤(partsI t b q).sum + 50∧(partsI t b q).sum + 50≤_;omega)
 ·rw [hta]
  unfold scoreI
  rw [if_pos (sc7 ‹_›)];rfl
 ·rw [hta]
  unfold scoreI
  rw [if_neg (sc7n ‹_›),Int.add_zero]
theorem vc_step {t:TS} {k:Int} (hv:t.values.length=t.letters.length) (hc:t.counts.length=t.letters.length) (h0:0≤k) (h:k<t.counts.length):vcB (t.values.drop k.toNat) (t.counts.drop k.toNat)=(inR (t.values.getD k.toNat 0) 0 20&&(inR (t.counts.getD k.toNat 0) 1 20&&vcB (t.values.drop (k+1).toNat) (t.counts.drop (k+1).toNat))):=by
 rw [dc h0 (show k<(t.values.length:Int) by omega) 0,dc h0 h 0,vcB]
theorem vc_end {t:TS} {k:Int} (h:(t.counts.length:Int)≤k):vcB (t.values.drop k.toNat) (t.counts.drop k.toNat)=true:=by
 rw [List.drop_of_length_le (show t.counts.length≤k.toNat by omega)]
 cases List.drop k.toNat t.values<;>rfl
theorem ts_i (t:TS):tsB t=(decide (1≤t.letters.length)&&(riseB t.letters&&(decide (t.values.length=t.letters.length)&&(decide (t.counts.length=t.letters.length)&&(inR t.blanks 0 4&&(vcB t.values t.counts&&decide (t.blanks+t.counts.sum≤120))))))):=by
 unfold tsB;rw [sm_adj];rfl
def sp_i_ValidTiles (p:Pr):FSpec:=fsp (a1 (aA aTs)) (fun t=>TsL t) (fun t=>.b (tsB t))
theorem ok_i_ValidTiles:FOk Tryz.prog 79 (sp_i_ValidTiles std):=by
 refine FOk.go (c:=cx std [(176,sp_i_rising std),(83,sp_i_within std)] [] 0) (cx_ok (.cons ok_i_rising (.cons ok_i_within .nil)) .nil) mixed Tryz.func79 rfl rfl rfl (by kernel_rfl) ?_
 rintro t hp
 refine⟨rfl,?_⟩
 unfold sp_i_rising sp_i_within
 obtain⟨H,hH⟩ : ∃H:Hd (Int×Int),H=⟨fun (k,m)=>0≤k∧k≤t.counts.length∧m=t.blanks+(t.counts.take k.toNat).sum ∧0≤m∧m≤4+20*k∧tsB t=(vcB (t.values.drop k.toNat) (t.counts.drop k.toNat)&&decide (t.blanks+t.counts.sum≤120)),fun (k,m)=>(t.counts.length-k).toNat,(· < ·)⟩:=⟨_,rfl⟩
 have hl : ∀m n,H.lt m n→m<n:=by subst hH;exact fun _ _ h=>h
 generalize hP:std=p,hB0:tsB=B0,hB1:riseB=B1,hB2:inR=B2
 cbv
 repeat' first
  | (refine fun (_:Unit)=>?_;cbv)
  | (refine Or.inr ⟨44,[],[.s 43 (.i .i64),.s 4 (.i .i64)],[],[],H,rfl,hl,?_,fun ((k,m):Int×Int) hk=>?_⟩<;>cbv)
  | (refine aI2 (fun h=>?_) (fun h=>?_)<;>cbv)
  | (refine aI2 ?_ ?_)
 all_goals subst hP hB0 hB1 hB2 hH
 all_goals clear hl
 all_goals try dsimp only at hk
 all_goals try dsimp only
 all_goals try exact fin
 all_goals try simp only [eta_ts] at *
 ·exact ltM_of hp.l
 all_goals have ht:=ts_i t
 all_goals try (have b0:(1≤t.letters.length)=True:=eq_true (by have:=ge_of (show std.ltI (std.lenS t.letters) 1=false by assumption);simp at this;omega))
 all_goals try (have b1:riseB t.letters=true:=by assumption)
 all_goals try (have b2:=len_e (L:=t.values) (s:=t.letters) ‹_›)
 all_goals try (have b3:=len_e (L:=t.counts) (s:=t.letters) ‹_›)
 all_goals try (have b4:inR t.blanks 0 4=true:=by assumption)
 ·rw [ht,show inR t.blanks 0 4=false by assumption];simp
 ·have c4:=in_bd b4
  refine⟨Int.le_refl 0,Int.natCast_nonneg _,by simp,c4.1,c4.2,?_⟩
  rw [ht,b1,b4,decide_eq_true b2,decide_eq_true b3]
  simp [b0]
 all_goals try (obtain⟨q0,q1,q2,q3,q4,e⟩:=hk)
 all_goals try (have h1:k<(t.counts.length:Int):=lt_of ‹_›)
 all_goals try (have st:=vc_step b2 b3 q0 h1)
 all_goals try (have c2:=sum_tk (L:=t.counts) q0 h1)
 all_goals try (have d1:inR (t.values.getD k.toNat 0) 0 20=true:=by assumption)
 all_goals try (have d2:inR (t.counts.getD k.toNat 0) 1 20=true:=by assumption)
 all_goals try (have d3:=in_bd d2)
 ·rw [e,st,show inR (t.counts.getD k.toNat 0) 1 20=false by assumption];simp
 ·have q1:k≤(t.counts.length:Int):=q1
  have q5:=hp.c
  exact in64 (by show _≤m+t.counts.getD k.toNat 0∧m+t.counts.getD k.toNat 0≤_;omega)
 ·have q5:=hp.c
  exact in64 (by show _≤k+1∧k+1≤_;omega)
 ·refine⟨by show 0≤k+1;omega,by show k+1≤(t.counts.length:Int);omega,by show m+t.counts.getD k.toNat 0=t.blanks+(t.counts.take (k+1).toNat).sum;rw [c2];omega,by show 0≤m+t.counts.getD k.toNat 0;omega,by show m+t.counts.getD k.toNat 0≤4+20*(k+1);omega,?_⟩
  rw [e,st,d1,d2];rfl
 ·rw [e,st,show inR (t.values.getD k.toNat 0) 0 20=false by assumption];rfl
 ·have h2:(t.counts.length:Int)≤k:=ge_of ‹_›
  rw [e,q2,tk_all h2,vc_end h2];rfl
 ·rw [ht,decide_eq_false (len_n (L:=t.counts) (s:=t.letters) ‹_›)];simp
 ·rw [ht,decide_eq_false (len_n (L:=t.values) (s:=t.letters) ‹_›)];simp
 ·rw [ht,show riseB t.letters=false by assumption];simp
 ·have b5 : ¬1≤t.letters.length:=by have:=lt_of (show std.ltI (std.lenS t.letters) 1=true by assumption);have h3:(t.letters.length:Int)<1:=this;omega
  rw [ht,decide_eq_false b5];rfl
structure SuQ (u:Su):Prop where
 ts:TsL u.ts
 ws:WsL u.lex
 bd:BdP u.bd
theorem suE (u:Su):suB u=(tsB ⟨u.ts.letters,u.ts.values,u.ts.counts,u.ts.blanks⟩&&(lexB u.lex&&(bdB ⟨u.bd.size,u.bd.prem,u.bd.cells⟩&&(emptyB ⟨u.bd.size,u.bd.prem,u.bd.cells⟩&&(inR u.secs 0 36000&&inR u.rule 0 3))))):=rfl
def sp_i_ValidSetup (p:Pr):FSpec:=fsp (a1 (aA aSu)) (fun u=>SuQ u) (fun u=>.b (suB u))
theorem ok_i_ValidSetup:FOk Tryz.prog 14 (sp_i_ValidSetup std):=by
 refine FOk.go (c:=cx std [(79,sp_i_ValidTiles std),(80,sp_i_ValidLexicon std),(81,sp_i_ValidBoard std),(82,sp_i_Board_blank std),(83,sp_i_within std)] [] 0) (cx_ok (.cons ok_i_ValidTiles (.cons ok_i_ValidLexicon (.cons ok_i_ValidBoard (.cons ok_i_Board_blank (.cons ok_i_within .nil))))) .nil) mixed Tryz.func14 rfl rfl rfl (by kernel_rfl) ?_
 rintro u hp
 refine⟨rfl,?_⟩
 unfold sp_i_ValidTiles sp_i_ValidLexicon sp_i_ValidBoard sp_i_Board_blank sp_i_within
 generalize hP:std=p,hB0:suB=B0,hB1:tsB=B1,hB2:lexB=B2,hB3:bdB=B3,hB4:emptyB=B4,hB5:inR=B5
 cbv
 repeat' first
  | (refine fun (_:Unit)=>?_;cbv)
  | (refine aI2 (fun h=>?_) (fun h=>?_)<;>cbv)
  | (refine aI2 ?_ ?_)
  | (refine Or.inl (fun (_:Unit)=>?_);cbv)
 all_goals subst hP hB0 hB1 hB2 hB3 hB4 hB5
 all_goals try exact fin
 all_goals first
  | exact hp.bd
  | exact bdB.fit (show bdB u.bd=true by assumption)
  | (rw [suE];simp [*];done)
  | (rw [suE];simp [*] at *;simp [*];done)
end Ax
namespace Ax
set_option maxRecDepth 100000
set_option maxHeartbeats 2000000
theorem vcB_sum : ∀(vs cs:List Int),vs.length=cs.length→vcB vs cs=true→(∀c∈cs,1≤c∧c≤20)∧∀v∈vs,0≤v∧v≤20
 | [],[],_,_=>⟨fun _ h=>(by cases h),fun _ h=>(by cases h)⟩
 | [],_::_,h,_=>by simp at h
 | _::_,[],h,_=>by simp at h
 | v::vs,c::cs,h,hb=>by
   rw [vcB] at hb
   simp only [Bool.and_eq_true,inR,decide_eq_true_eq] at hb
   obtain⟨h1,h2⟩:=vcB_sum vs cs (by simpa using h) hb.2.2
   refine⟨fun x hx=>?_,fun x hx=>?_⟩
   ·rcases List.mem_cons.1 hx with e | hx
    ·subst e;exact hb.2.1
    ·exact h1 x hx
   ·rcases List.mem_cons.1 hx with e | hx
    ·subst e;exact hb.1
    ·exact h2 x hx
theorem tsB_ok {t:TS} (h:tsB t=true):TsOk t:=by
 unfold tsB at h
 simp only [Bool.and_eq_true,decide_eq_true_eq] at h
 obtain⟨h1,h2,h3,h4,h5,h6,h7⟩:=h
 have hb:=vcB_sum t.values t.counts (by omega) h6
 have key : ∀c,0≤valT t c∧valT t c≤20:=fun c=>by
  unfold valT
  split
  ·rename_i hk
   have hk':findK t.letters c<t.values.length:=by omega
   rw [List.getD_eq_getElem?_getD,List.getElem?_eq_getElem hk']
   exact hb.2 _ (List.getElem_mem hk')
  ·omega
 exact⟨smFrom_26 h2,h3,h4,fun c=>(key c).1,fun c=>(key c).2⟩
theorem tsB_all {t:TS} (h:tsB t=true):AllP t∧0≤t.blanks∧∀k:Nat,0≤t.counts.getD k 0:=by
 have ho:=tsB_ok h
 unfold tsB at h
 simp only [Bool.and_eq_true,decide_eq_true_eq] at h
 obtain⟨h1,h2,h3,h4,h5,h6,h7⟩:=h
 have hb:=(vcB_sum t.values t.counts (by omega) h6).1
 have hk : ∀k:Nat,0≤t.counts.getD k 0∧t.counts.getD k 0≤20:=fun k=>by
  rw [List.getD_eq_getElem?_getD]
  rcases Nat.lt_or_ge k t.counts.length with h | h
  ·rw [List.getElem?_eq_getElem h]
   have:=hb _ (List.getElem_mem h)
   show 0≤t.counts[k]∧t.counts[k]≤20
   omega
  ·rw [List.getElem?_eq_none h];decide
 have h5:=in_bd h5
 exact⟨⟨ho,h5.2,fun k=>(hk k).2⟩,h5.1,fun k=>(hk k).1⟩
theorem eqI_t {a b:Int} (h:std.eqI a b=true):a=b:=by simpa using h
theorem eqI_f {a b:Int} (h:std.eqI a b=false) : ¬a=b:=by simpa using h
theorem len2 {α:Type} (L:List α):std.eqI (std.len L) 2=decide (L.length=2):=by
 show decide ((L.length:Int)=2)=_
 rw [Bool.eq_iff_iff,decide_eq_true_eq,decide_eq_true_eq];omega
theorem shapeE (g:Gm):shapeB g=(suB ⟨⟨g.ts.letters,g.ts.values,g.ts.counts,g.ts.blanks⟩,g.lex,⟨g.bd0.size,g.bd0.prem,g.bd0.cells⟩,g.secs,g.rule⟩&&(bdB ⟨g.bd.size,g.bd.prem,g.bd.cells⟩&&(std.eqI g.bd.size g.bd0.size&&(std.eqS g.bd.prem g.bd0.prem&&bagB g.bag)))):=rfl
theorem twoE (g:Gm):twoB g=(std.eqI (std.len g.racks) 2&&(std.eqI (std.len g.scores) 2&&(std.eqI (std.len g.clocks) 2&&(inR g.player 0 1&&inR g.zeros 0 6)))):=by
 rw [len2,len2,len2];rfl
theorem z_full {z:Int} (h:std.eqI z 6=true):decide (z<6)=false:=by
 have : z=6:=by simpa using h
 subst this;rfl
theorem z_less {z:Int} (h0:inR z 0 6=true) (h:std.eqI z 6=false):decide (z<6)=true:=by
 have h1 : ¬z=6:=by simpa using h
 have h2:=in_bd h0
 rw [decide_eq_true_eq];omega
theorem side_n1 {g:Gm} {k:Int} (h:rackB (g.racks.getD k.toNat [])=false):sideB g k.toNat=false:=by unfold sideB;rw [h];rfl
theorem side_n2 {g:Gm} {k:Int} (_:0≤k) (h:inR (g.scores.getD k.toNat 0) (-100000) 100000=false):sideB g k.toNat=false:=by unfold sideB;rw [h];simp
theorem side_n3 {g:Gm} {k:Int} (_:0≤k) (h:inR (g.clocks.getD k.toNat 0) (-36000) 36000=false):sideB g k.toNat=false:=by unfold sideB;rw [h];simp
theorem side_suc {g:Gm} {k:Int} (h0:0≤k) (h1:k<2) (q2:0<k→sideB g 0=true) (_:1<k→sideB g 1=true) (a:rackB (g.racks.getD k.toNat [])=true) (b:inR (g.scores.getD k.toNat 0) (-100000) 100000=true) (c:inR (g.clocks.getD k.toNat 0) (-36000) 36000=true) :
 0≤k+1∧k+1≤2∧(0<k+1→sideB g 0=true)∧(1<k+1→sideB g 1=true):=by
 have hs:sideB g k.toNat=true:=by unfold sideB;rw [a,b,c];rfl
 have : k=0∨k=1:=by omega
 rcases this with rfl | rfl
 ·exact⟨by omega,by omega,fun _=>hs,fun h=>absurd h (by decide)⟩
 ·exact⟨by omega,by omega,fun _=>q2 (by omega),fun _=>hs⟩
theorem rack_len {s:List UInt8} (h:rackB s=true):s.length≤7:=by
 unfold rackB at h
 rw [Bool.and_eq_true,decide_eq_true_eq] at h
 exact h.2
theorem lettersS_len (b:Bd) (h:b.Fit):(lettersS b).length ≤225:=by
 have h1:=List.length_filter_le (fun c:UInt8=>!(c==46)) b.cells
 have h2:=h.cells;have h3:=h.hi;have h4:=h.lo
 have h5:b.size*b.size≤15*b.size:=Int.mul_le_mul_of_nonneg_right h3 (by omega)
 unfold lettersS;omega
end Ax
end Go.Proofs.YtjjonmhpgkahoaaGreatDoor
