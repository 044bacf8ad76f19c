/-
  Scores of plays, valid tile sets and setups, of the impl package; Tiles of a game, whether one waits, whether the last play and the last turn fit, of the impl package; Whether the last turn fits, valid games, codes of actions, of the impl package; Codes of actions, draws, ends, copies, of the impl package; How a game ends, of the impl package.
  Conditions: none.
-/
import Derived.Test.YtghmphmbpdiflaaGreatDoorE34
import Derived.Test.YtghmphmbpdiflaaGreatDoorE16
import Derived.Test.YtghmphmbpdiflaaGreatDoorE18
import Derived.Test.YtghmphmbpdiflaaGreatDoorE29
set_option linter.unusedSimpArgs false
set_option linter.unusedVariables false
namespace Go.Proofs.YtghmphmbpdiflaaGreatDoor
namespace Ax
set_option maxRecDepth 100000
set_option maxHeartbeats 2000000
theorem parts_len {t:TS} {b:Bd} {q:Pl} (hp:VP b q):(partsI t b q).length ≤13:=by
 rw [←partJ_end (j:=((crS2 b q).length : Int)) (Int.le_refl _)];exact partJ_len hp
theorem score_bd {t:TS} {b:Bd} {q:Pl} (h:TsOk t) (hp:VP b q):0≤(partsI t b q).sum ∧(partsI t b q).sum ≤134306167760:=by
 have h1:=sum_bd (partsI t b q) (partsI_bd h hp)
 have h2:=parts_len (t:=t) hp
 omega
theorem sc7 {b:Bd} {q:Pl} (h:std.eqI (std.len (nsI b q)) 7=true):(newL b q).length =7:=by
 have h1:((nsI b q).length : Int)=7:=by simpa using h
 rw [ns_len] at h1;omega
theorem sc7n {b:Bd} {q:Pl} (h:std.eqI (std.len (nsI b q)) 7=false) : ¬(newL b q).length =7:=by
 have h1 : ¬((nsI b q).length : Int)=7:=by simpa using h
 rw [ns_len] at h1;omega
def sp_i_scorePlay (p:Pr):FSpec:=fsp (ac (aA aTs) (ac (aA aBd) (a1 (aA aPl)))) (fun (t,b,q)=>LsQ t b q) (fun (t,b,q)=>.i .i64 (scoreI t b q))
theorem ok_i_scorePlay:FOk Tryz.prog 216 (sp_i_scorePlay std):=by
 refine FOk.go (c:=cx std [(248,sp_i_scoreParts std),(215,sp_i_newSquares std)] [] 0) (cx_ok (.cons ok_i_scoreParts (.cons ok_i_newSquares .nil)) .nil) mixed Tryz.func216 rfl rfl rfl (by kernel_rfl) ?_
 rintro ⟨t,b,q⟩ hp
 dsimp only at hp
 refine⟨rfl,?_⟩
 unfold sp_i_scoreParts sp_i_newSquares
 obtain⟨H,hH⟩ : ∃H:Hd (Int×Int),H=⟨fun (k,m)=>0≤k∧k≤(partsI t b q).length ∧m=((partsI t b q).take k.toNat).sum,fun (k,m)=>((partsI t b q).length - k).toNat,(· < ·)⟩:=⟨_,rfl⟩
 have hl : ∀m n,H.lt m n→m<n:=by subst hH;exact fun _ _ h=>h
 generalize hP:std=p,hB0:scoreI=B0,hB1:partsI=B1,hB2:nsI=B2
 cbv
 repeat' first
  | (refine fun (_:Unit)=>?_;cbv)
  | (refine Or.inr ⟨18,[],[.s 17 (.i .i64),.s 7 (.i .i64)],[],[],H,rfl,hl,?_,fun ((k,m):Int×Int) hk=>?_⟩<;>cbv)
  | (refine aI2 (fun h=>?_) (fun h=>?_)<;>cbv)
  | (refine aI2 ?_ ?_)
 all_goals subst hP hB0 hB1 hB2 hH
 all_goals clear hl
 all_goals try dsimp only at hk
 all_goals try dsimp only
 all_goals try exact fin
 all_goals try simp only [eta_bd,eta_pl,eta_ts] at *
 all_goals obtain⟨q0,q1,rfl⟩:=hk
 all_goals have q1:k≤((partsI t b q).length : Int):=q1
 all_goals have hpb:=score_bd hp.ts hp.vp
 all_goals have hpl:=parts_len (t:=t) hp.vp
 all_goals try (have hge:((partsI t b q).length : Int)≤k:=ge_of ‹_›;have hta:(partsI t b q).take k.toNat=partsI t b q:=tk_all hge)
 ·have hlt:k<((partsI t b q).length : Int):=lt_of ‹_›
  have h5:=sum_tk_bd (partsI_bd hp.ts hp.vp) (by decide) (k:=k+1) (by omega)
  rw [sum_tk q0 hlt] at h5
  exact in64 (by show _≤((partsI t b q).take k.toNat).sum + (partsI t b q).getD k.toNat 0∧((partsI t b q).take k.toNat).sum + (partsI t b q).getD k.toNat 0≤_;omega)
 ·have hlt:k<((partsI t b q).length : Int):=lt_of ‹_›
  exact in64 (by show _≤k+1∧k+1≤_;omega)
 ·have hlt:k<((partsI t b q).length : Int):=lt_of ‹_›
  exact⟨by show 0≤k+1;omega,by show k+1≤((partsI t b q).length : Int);omega,(sum_tk q0 hlt).symm⟩
 ·rw [hta]
  exact in64 (by show _≤(partsI t b q).sum + 50∧(partsI t b q).sum + 50≤_;omega)
 ·rw [hta]
  unfold scoreI
  rw [if_pos (sc7 ‹_›)];rfl
 ·rw [hta]
  unfold scoreI
  rw [if_neg (sc7n ‹_›),Int.add_zero]
theorem vc_step {t:TS} {k:Int} (hv:t.values.length=t.letters.length) (hc:t.counts.length=t.letters.length) (h0:0≤k) (h:k<t.counts.length):vcB (t.values.drop k.toNat) (t.counts.drop k.toNat)=(inR (t.values.getD k.toNat 0) 0 20&&(inR (t.counts.getD k.toNat 0) 1 20&&vcB (t.values.drop (k+1).toNat) (t.counts.drop (k+1).toNat))):=by
 rw [dc h0 (show k<(t.values.length:Int) by omega) 0,dc h0 h 0,vcB]
theorem vc_end {t:TS} {k:Int} (h:(t.counts.length:Int)≤k):vcB (t.values.drop k.toNat) (t.counts.drop k.toNat)=true:=by
 rw [List.drop_of_length_le (show t.counts.length≤k.toNat by omega)]
 cases List.drop k.toNat t.values<;>rfl
theorem ts_i (t:TS):tsB t=(decide (1≤t.letters.length)&&(riseB t.letters&&(decide (t.values.length=t.letters.length)&&(decide (t.counts.length=t.letters.length)&&(inR t.blanks 0 4&&(vcB t.values t.counts&&decide (t.blanks+t.counts.sum≤120))))))):=by
 unfold tsB;rw [sm_adj];rfl
def sp_i_ValidTiles (p:Pr):FSpec:=fsp (a1 (aA aTs)) (fun t=>TsL t) (fun t=>.b (tsB t))
theorem ok_i_ValidTiles:FOk Tryz.prog 68 (sp_i_ValidTiles std):=by
 refine FOk.go (c:=cx std [(148,sp_i_rising std),(72,sp_i_within std)] [] 0) (cx_ok (.cons ok_i_rising (.cons ok_i_within .nil)) .nil) mixed Tryz.func68 rfl rfl rfl (by kernel_rfl) ?_
 rintro t hp
 refine⟨rfl,?_⟩
 unfold sp_i_rising sp_i_within
 obtain⟨H,hH⟩ : ∃H:Hd (Int×Int),H=⟨fun (k,m)=>0≤k∧k≤t.counts.length∧m=t.blanks+(t.counts.take k.toNat).sum ∧0≤m∧m≤4+20*k∧tsB t=(vcB (t.values.drop k.toNat) (t.counts.drop k.toNat)&&decide (t.blanks+t.counts.sum≤120)),fun (k,m)=>(t.counts.length-k).toNat,(· < ·)⟩:=⟨_,rfl⟩
 have hl : ∀m n,H.lt m n→m<n:=by subst hH;exact fun _ _ h=>h
 generalize hP:std=p,hB0:tsB=B0,hB1:riseB=B1,hB2:inR=B2
 cbv
 repeat' first
  | (refine fun (_:Unit)=>?_;cbv)
  | (refine Or.inr ⟨44,[],[.s 43 (.i .i64),.s 4 (.i .i64)],[],[],H,rfl,hl,?_,fun ((k,m):Int×Int) hk=>?_⟩<;>cbv)
  | (refine aI2 (fun h=>?_) (fun h=>?_)<;>cbv)
  | (refine aI2 ?_ ?_)
 all_goals subst hP hB0 hB1 hB2 hH
 all_goals clear hl
 all_goals try dsimp only at hk
 all_goals try dsimp only
 all_goals try exact fin
 all_goals try simp only [eta_ts] at *
 ·exact ltM_of hp.l
 all_goals have ht:=ts_i t
 all_goals try (have b0:(1≤t.letters.length)=True:=eq_true (by have:=ge_of (show std.ltI (std.lenS t.letters) 1=false by assumption);simp at this;omega))
 all_goals try (have b1:riseB t.letters=true:=by assumption)
 all_goals try (have b2:=len_e (L:=t.values) (s:=t.letters) ‹_›)
 all_goals try (have b3:=len_e (L:=t.counts) (s:=t.letters) ‹_›)
 all_goals try (have b4:inR t.blanks 0 4=true:=by assumption)
 ·rw [ht,show inR t.blanks 0 4=false by assumption];simp
 ·have c4:=in_bd b4
  refine⟨Int.le_refl 0,Int.natCast_nonneg _,by simp,c4.1,c4.2,?_⟩
  rw [ht,b1,b4,decide_eq_true b2,decide_eq_true b3]
  simp [b0]
 all_goals try (obtain⟨q0,q1,q2,q3,q4,e⟩:=hk)
 all_goals try (have h1:k<(t.counts.length:Int):=lt_of ‹_›)
 all_goals try (have st:=vc_step b2 b3 q0 h1)
 all_goals try (have c2:=sum_tk (L:=t.counts) q0 h1)
 all_goals try (have d1:inR (t.values.getD k.toNat 0) 0 20=true:=by assumption)
 all_goals try (have d2:inR (t.counts.getD k.toNat 0) 1 20=true:=by assumption)
 all_goals try (have d3:=in_bd d2)
 ·rw [e,st,show inR (t.counts.getD k.toNat 0) 1 20=false by assumption];simp
 ·have q1:k≤(t.counts.length:Int):=q1
  have q5:=hp.c
  exact in64 (by show _≤m+t.counts.getD k.toNat 0∧m+t.counts.getD k.toNat 0≤_;omega)
 ·have q5:=hp.c
  exact in64 (by show _≤k+1∧k+1≤_;omega)
 ·refine⟨by show 0≤k+1;omega,by show k+1≤(t.counts.length:Int);omega,by show m+t.counts.getD k.toNat 0=t.blanks+(t.counts.take (k+1).toNat).sum;rw [c2];omega,by show 0≤m+t.counts.getD k.toNat 0;omega,by show m+t.counts.getD k.toNat 0≤4+20*(k+1);omega,?_⟩
  rw [e,st,d1,d2];rfl
 ·rw [e,st,show inR (t.values.getD k.toNat 0) 0 20=false by assumption];rfl
 ·have h2:(t.counts.length:Int)≤k:=ge_of ‹_›
  rw [e,q2,tk_all h2,vc_end h2];rfl
 ·rw [ht,decide_eq_false (len_n (L:=t.counts) (s:=t.letters) ‹_›)];simp
 ·rw [ht,decide_eq_false (len_n (L:=t.values) (s:=t.letters) ‹_›)];simp
 ·rw [ht,show riseB t.letters=false by assumption];simp
 ·have b5 : ¬1≤t.letters.length:=by have:=lt_of (show std.ltI (std.lenS t.letters) 1=true by assumption);have h3:(t.letters.length:Int)<1:=this;omega
  rw [ht,decide_eq_false b5];rfl
structure SuQ (u:Su):Prop where
 ts:TsL u.ts
 ws:WsL u.lex
 bd:BdP u.bd
theorem suE (u:Su):suB u=(tsB ⟨u.ts.letters,u.ts.values,u.ts.counts,u.ts.blanks⟩&&(lexB u.lex&&(bdB ⟨u.bd.size,u.bd.prem,u.bd.cells⟩&&(emptyB ⟨u.bd.size,u.bd.prem,u.bd.cells⟩&&(inR u.secs 0 36000&&inR u.rule 0 3))))):=rfl
def sp_i_ValidSetup (p:Pr):FSpec:=fsp (a1 (aA aSu)) (fun u=>SuQ u) (fun u=>.b (suB u))
theorem ok_i_ValidSetup:FOk Tryz.prog 12 (sp_i_ValidSetup std):=by
 refine FOk.go (c:=cx std [(68,sp_i_ValidTiles std),(69,sp_i_ValidLexicon std),(70,sp_i_ValidBoard std),(71,sp_i_Board_blank std),(72,sp_i_within std)] [] 0) (cx_ok (.cons ok_i_ValidTiles (.cons ok_i_ValidLexicon (.cons ok_i_ValidBoard (.cons ok_i_Board_blank (.cons ok_i_within .nil))))) .nil) mixed Tryz.func12 rfl rfl rfl (by kernel_rfl) ?_
 rintro u hp
 refine⟨rfl,?_⟩
 unfold sp_i_ValidTiles sp_i_ValidLexicon sp_i_ValidBoard sp_i_Board_blank sp_i_within
 generalize hP:std=p,hB0:suB=B0,hB1:tsB=B1,hB2:lexB=B2,hB3:bdB=B3,hB4:emptyB=B4,hB5:inR=B5
 cbv
 repeat' first
  | (refine fun (_:Unit)=>?_;cbv)
  | (refine aI2 (fun h=>?_) (fun h=>?_)<;>cbv)
  | (refine aI2 ?_ ?_)
  | (refine Or.inl (fun (_:Unit)=>?_);cbv)
 all_goals subst hP hB0 hB1 hB2 hB3 hB4 hB5
 all_goals try exact fin
 all_goals first
  | exact hp.bd
  | exact bdB.fit (show bdB u.bd=true by assumption)
  | (rw [suE];simp [*];done)
  | (rw [suE];simp [*] at *;simp [*];done)
end Ax
namespace Ax
set_option maxRecDepth 100000
set_option maxHeartbeats 2000000
def tilesF (g:Gm):Bool:=pileL (countsL (((g.bag++g.racks.getD 0 [])++g.racks.getD 1 [])++tilesP (lettersS g.bd)))==allT g.ts
theorem rack_stp {s:List UInt8} (h:rackB s=true):StP s:=by
 have h1:=(rackB_asc h).1
 refine⟨h1,?_⟩
 unfold rackB at h
 rw [Bool.and_eq_true,decide_eq_true_eq] at h
 omega
theorem bag_stp {s:List UInt8} (h:bagB s=true):StP s:=by
 have h1:=bagB_tiles h
 refine⟨h1,?_⟩
 unfold bagB at h
 rw [Bool.and_eq_true,decide_eq_true_eq] at h
 omega
theorem tilesP_len (s:List UInt8):(tilesP s).length ≤27*s.length:=by
 have h1:=counts_ct (s.map blankC)
 rw [List.length_map] at h1
 exact pileTo_bd (c:=countsL (s.map blankC)) (m:=s.length) (fun j=>h1.hi j) 27
structure TfP (g:Gm):Prop where
 ts:TlP g.ts
 bd:bdB g.bd=true
 bag:bagB g.bag=true
 rk2:g.racks.length=2
 rk0:rackB (g.racks.getD 0 [])=true
 rk1:rackB (g.racks.getD 1 [])=true
def sp_i_Game_tilesFit (p:Pr):FSpec:=fsp (a1 (aA aGm)) (fun g=>TfP g) (fun g=>.b (tilesF g))
theorem ok_i_Game_tilesFit:FOk Tryz.prog 74 (sp_i_Game_tilesFit std):=by
 refine FOk.go (c:=cx std [(79,sp_i_Board_lettersOn std),(80,sp_i_tilesOf std),(58,sp_i_sorted std),(59,sp_i_allTiles std)] [] 0) (cx_ok (.cons ok_i_Board_lettersOn (.cons ok_i_tilesOf (.cons ok_i_sorted (.cons ok_i_allTiles .nil)))) .nil) mixed Tryz.func74 rfl rfl rfl (by kernel_rfl) ?_
 rintro g hp
 refine⟨rfl,?_⟩
 unfold sp_i_Board_lettersOn sp_i_tilesOf sp_i_sorted sp_i_allTiles
 generalize hP:std=p,hB0:tilesF=B0,hB1:pileL=B1,hB2:countsL=B2,hB3:tilesP=B3,hB4:lettersS=B4,hB5:allT=B5
 cbv
 repeat' first
  | (refine fun (_:Unit)=>?_;cbv)
  | (refine aI2 (fun h=>?_) (fun h=>?_)<;>cbv)
  | (refine aI2 ?_ ?_)
  | (refine Or.inl (fun (_:Unit)=>?_);cbv)
 all_goals subst hP hB0 hB1 hB2 hB3 hB4 hB5
 all_goals try exact fin
 all_goals (have hb:=bag_len hp.bag;have h0:=rack_len hp.rk0;have h1:=rack_len hp.rk1;have hr:=hp.rk2;have hll:=lettersS_len g.bd (bdB.fit hp.bd);have htl:=tilesP_len (lettersS g.bd))
 ·exact⟨Int.le_refl 0,by show (0:Int)<(g.racks.length:Int);omega⟩
 ·exact in64 (by show _≤(g.bag.length:Int)+((g.racks.getD 0 []).length : Int)∧(g.bag.length:Int)+((g.racks.getD 0 []).length : Int)≤_;omega)
 ·exact⟨by decide,by show (1:Int)<(g.racks.length:Int);omega⟩
 ·exact in64 (by
   show _≤((g.bag++g.racks.getD 0 []).length : Int)+((g.racks.getD 1 []).length : Int)∧((g.bag++g.racks.getD 0 []).length : Int)+((g.racks.getD 1 []).length : Int)≤_
   rw [List.length_append];omega)
 ·exact bdB.fit hp.bd
 ·exact⟨cells_lett hp.bd,by show (lettersS g.bd).length ≤_;omega⟩
 ·exact in64 (by
   show _≤(((g.bag++g.racks.getD 0 [])++g.racks.getD 1 []).length : Int)+((tilesP (lettersS g.bd)).length : Int)∧(((g.bag++g.racks.getD 0 [])++g.racks.getD 1 []).length : Int)+((tilesP (lettersS g.bd)).length : Int)≤_
   rw [List.length_append,List.length_append];omega)
 ·refine⟨?_,?_⟩
  ·show (((g.bag++g.racks.getD 0 [])++g.racks.getD 1 [])++tilesP (lettersS g.bd)).all tileB=true
   rw [List.all_append,List.all_append,List.all_append,(bag_stp hp.bag).ti,(rack_stp hp.rk0).ti,(rack_stp hp.rk1).ti,show (tilesP (lettersS g.bd)).all tileB=true from pileL_tile' _];rfl
  ·show (((g.bag++g.racks.getD 0 [])++g.racks.getD 1 [])++tilesP (lettersS g.bd)).length ≤_
   rw [List.length_append,List.length_append,List.length_append];omega
theorem emp_is (s:List UInt8):std.eqS s []=s.isEmpty:=by cases s<;>rfl
structure WtP (g:Gm):Prop where
 rk2:g.racks.length=2
 ply:inR g.player 0 1=true
def sp_i_Game_waits (p:Pr):FSpec:=fsp (a1 (aA aGm)) (fun g=>WtP g) (fun g=>.b (waitsB g))
theorem ok_i_Game_waits:FOk Tryz.prog 91 (sp_i_Game_waits std):=by
 refine FOk.go (c:=cx std [] [] 0) (cx_ok .nil .nil) mixed Tryz.func91 rfl rfl rfl (by kernel_rfl) ?_
 rintro g hp
 refine⟨rfl,?_⟩
 generalize hP:std=p,hB0:waitsB=B0,hB1:inR=B1
 cbv
 repeat' first
  | (refine fun (_:Unit)=>?_;cbv)
  | (refine aI2 (fun h=>?_) (fun h=>?_)<;>cbv)
  | (refine aI2 ?_ ?_)
  | (refine Or.inl (fun (_:Unit)=>?_);cbv)
 all_goals subst hP hB0 hB1
 all_goals try exact fin
 all_goals (have h0:=in_bd hp.ply;have hr:=hp.rk2)
 ·exact in64 (by show _≤1-g.player∧1-g.player≤_;omega)
 ·exact⟨by show 0≤1-g.player;omega,by show 1-g.player<(g.racks.length:Int);omega⟩
 ·unfold waitsB
  rw [show g.bag.isEmpty=true by rw [←emp_is];assumption]
  exact emp_is _
 ·unfold waitsB
  rw [show g.bag.isEmpty=false by rw [←emp_is];assumption];rfl
structure PfQ (g:Gm):Prop where
 ts:TsOk g.ts
 rk2:g.racks.length=2
 ply:inR g.player 0 1=true
 rk0:rackB (g.racks.getD 0 [])=true
 rk1:rackB (g.racks.getD 1 [])=true
 bf:BdP g.bef
 wd:(g.last.play.word.length:Int)≤1073741824
 dr:g.last.drawn.length≤274877906944
theorem le_not (m n:Int):decide (m≤n)=!(std.ltI n m):=by
 show decide (m≤n)=!(decide (n<m))
 rw [Bool.eq_iff_iff]
 simp
theorem pfE (g:Gm):playOkI g=(inR g.last.player 0 1&&(std.eqI g.last.player (std.sub 1 g.player)&&(okI ⟨g.bd.size,g.bd.prem,g.last.before⟩ ⟨g.last.play.row,g.last.play.col,g.last.play.down,g.last.play.word⟩&&(
 std.and (std.eqI (madeB ⟨g.bd.size,g.bd.prem,g.last.before⟩ ⟨g.last.play.row,g.last.play.col,g.last.play.down,g.last.play.word⟩).size g.bd.size) (std.and (std.eqS (madeB ⟨g.bd.size,g.bd.prem,g.last.before⟩ ⟨g.last.play.row,g.last.play.col,g.last.play.down,g.last.play.word⟩).prem g.bd.prem) (std.eqS (madeB ⟨g.bd.size,g.bd.prem,g.last.before⟩ ⟨g.last.play.row,g.last.play.col,g.last.play.down,g.last.play.word⟩).cells g.bd.cells))&&(
 !(std.ltI 7 (std.len (nsI ⟨g.bd.size,g.bd.prem,g.last.before⟩ ⟨g.last.play.row,g.last.play.col,g.last.play.down,g.last.play.word⟩)))&&(bagB g.last.drawn&&(
 !(std.ltI (std.len (nsI ⟨g.bd.size,g.bd.prem,g.last.before⟩ ⟨g.last.play.row,g.last.play.col,g.last.play.down,g.last.play.word⟩)) (std.lenS g.last.drawn))&&(
 !(std.ltI 7 (std.add (std.sub (std.lenS (std.get [] g.racks g.last.player)) (std.lenS g.last.drawn)) (std.len (nsI ⟨g.bd.size,g.bd.prem,g.last.before⟩ ⟨g.last.play.row,g.last.play.col,g.last.play.down,g.last.play.word⟩))))&&(
 withoutB (std.get [] g.racks g.last.player) g.last.drawn&&(std.eqI g.last.score (scoreI ⟨g.ts.letters,g.ts.values,g.ts.counts,g.ts.blanks⟩ ⟨g.bd.size,g.bd.prem,g.last.before⟩ ⟨g.last.play.row,g.last.play.col,g.last.play.down,g.last.play.word⟩)&&(std.leI g.last.score 20000&&(inR g.last.zeros 0 5&&std.eqI g.zeros 0)))))))))))):=by
 have e1:decide ((newL g.bef g.last.play).length ≤7)=!(std.ltI 7 (std.len (nsI g.bef g.last.play))):=by
  rw [←le_not]
  show _=decide (((nsI g.bef g.last.play).length : Int)≤7)
  rw [ns_len,Bool.eq_iff_iff,decide_eq_true_eq,decide_eq_true_eq];omega
 have e2:decide (g.last.drawn.length≤(newL g.bef g.last.play).length)=!(std.ltI (std.len (nsI g.bef g.last.play)) (std.lenS g.last.drawn)):=by
  rw [←le_not]
  show _=decide ((g.last.drawn.length:Int)≤((nsI g.bef g.last.play).length : Int))
  rw [ns_len,Bool.eq_iff_iff,decide_eq_true_eq,decide_eq_true_eq];omega
 have e3:decide (((g.rk g.last.player).length : Int)-g.last.drawn.length+(newL g.bef g.last.play).length ≤7)=!(std.ltI 7 (std.add (std.sub (std.lenS (std.get [] g.racks g.last.player)) (std.lenS g.last.drawn)) (std.len (nsI g.bef g.last.play)))):=by
  rw [←le_not]
  show _=decide (((g.rk g.last.player).length : Int)-g.last.drawn.length+((nsI g.bef g.last.play).length : Int)≤7)
  rw [ns_len]
 unfold playOkI
 rw [e1,e2,e3]
 rfl
theorem VP.ok {b:Bd} {q:Pl} (h:okI b q=true):VP b q:=by
 unfold okI at h
 rw [Bool.and_eq_true] at h
 exact VP.of h.1 h.2
def sp_i_Game_playFits (p:Pr):FSpec:=fsp (a1 (aA aGm)) (fun g=>PfQ g) (fun g=>.b (playOkI g))
theorem ok_i_Game_playFits:FOk Tryz.prog 155 (sp_i_Game_playFits std):=by
 refine FOk.go (c:=cx std [(72,sp_i_within std),(213,sp_i_ValidPlay std),(214,sp_i_made std),(215,sp_i_newSquares std),(57,sp_i_ValidBag std),(169,sp_i_without std),(216,sp_i_scorePlay std)] [] 0) (cx_ok (.cons ok_i_within (.cons ok_i_ValidPlay (.cons ok_i_made (.cons ok_i_newSquares (.cons ok_i_ValidBag (.cons ok_i_without (.cons ok_i_scorePlay .nil))))))) .nil) mixed Tryz.func155 rfl rfl rfl (by kernel_rfl) ?_
 rintro g hp
 refine⟨rfl,?_⟩
 unfold sp_i_within sp_i_ValidPlay sp_i_made sp_i_newSquares sp_i_ValidBag sp_i_without sp_i_scorePlay
 generalize hP:std=p,hB0:playOkI=B0,hB1:inR=B1,hB2:okI=B2,hB3:madeB=B3,hB4:nsI=B4,hB5:npI=B5,hB6:bagB=B6,hB7:withoutS=B7,hB8:withoutB=B8,hB9:scoreI=B9
 cbv
 repeat' first
  | (refine fun (_:Unit)=>?_;cbv)
  | (refine aI2 (fun h=>?_) (fun h=>?_)<;>cbv)
  | (refine aI2 ?_ ?_)
  | (refine Or.inl (fun (_:Unit)=>?_);cbv)
 all_goals subst hP hB0 hB1 hB2 hB3 hB4 hB5 hB6 hB7 hB8 hB9
 all_goals try exact fin
 all_goals (have h0:=in_bd hp.ply;have hr:=hp.rk2)
 all_goals try (have hl1:=in_bd (show inR g.last.player 0 1=true by assumption);have hrk:=rk_valid hp.rk0 hp.rk1 (show inR g.last.player 0 1=true by assumption);have hrl:=rack_len hrk)
 all_goals try (have hvp:VP g.bef g.last.play:=VP.ok ‹_›;have hnl:=ns_len (b:=g.bef) (q:=g.last.play);have hn:=newTo_length g.bef g.last.play g.last.play.word.length;have hn:(newL g.bef g.last.play).length ≤g.last.play.word.length:=hn;have hw:=hvp.hi)
 all_goals try (have hbg:=bag_len (show bagB g.last.drawn=true by assumption))
 all_goals first
  | exact hp.bf
  | exact hp.wd
  | exact hvp
  | exact⟨hp.ts,hvp⟩
  | exact rack_stp hrk
  | exact bag_stp (show bagB g.last.drawn=true by assumption)
  | exact ltM_of hp.dr
  | exact⟨hl1.1,by show g.last.player<(g.racks.length:Int);omega⟩
  | (rw [pfE];simp only [*,Bool.not_false,Bool.not_true,Bool.true_and,Bool.false_and,Bool.and_false];done)
  | exact in64 (by show _≤1-g.player∧1-g.player≤_;omega)
  | exact in64 (by show _≤((g.rk g.last.player).length : Int)-(g.last.drawn.length:Int)∧((g.rk g.last.player).length : Int)-(g.last.drawn.length:Int)≤_;omega)
  | exact in64 (by show _≤((g.rk g.last.player).length : Int)-(g.last.drawn.length:Int)+((nsI g.bef g.last.play).length : Int)∧((g.rk g.last.player).length : Int)-(g.last.drawn.length:Int)+((nsI g.bef g.last.play).length : Int)≤_;omega)
  | skip
end Ax
namespace Ax
set_option maxRecDepth 100000
set_option maxHeartbeats 2000000
def sp_i_Game_lastFits (p:Pr):FSpec:=fsp (a1 (aA aGm)) (fun g=>PfQ g) (fun g=>.b (lastOkI g))
theorem ok_i_Game_lastFits:FOk Tryz.prog 75 (sp_i_Game_lastFits std):=by
 refine FOk.go (c:=cx std [(72,sp_i_within std),(155,sp_i_Game_playFits std)] [] 0) (cx_ok (.cons ok_i_within (.cons ok_i_Game_playFits .nil)) .nil) mixed Tryz.func75 rfl rfl rfl (by kernel_rfl) ?_
 rintro g hp
 refine⟨rfl,?_⟩
 unfold sp_i_within sp_i_Game_playFits
 generalize hP:std=p,hB0:lastOkI=B0,hB1:inR=B1,hB2:playOkI=B2
 cbv
 repeat' first
  | (refine fun (_:Unit)=>?_;cbv)
  | (refine aI2 (fun h=>?_) (fun h=>?_)<;>cbv)
  | (refine aI2 ?_ ?_)
  | (refine Or.inl (fun (_:Unit)=>?_);cbv)
 all_goals subst hP hB0 hB1 hB2
 all_goals try exact fin
 ·have k0:g.last.kind=0:=eqI_t ‹_›
  unfold lastOkI
  rw [if_pos k0];rfl
 ·have k0 : ¬g.last.kind=0:=eqI_f ‹_›
  have k2:g.last.kind=2:=eqI_t ‹_›
  unfold lastOkI
  rw [if_neg k0,if_pos (Or.inl k2),show inR g.last.player 0 1=true by assumption];rfl
 ·have k0 : ¬g.last.kind=0:=eqI_f ‹_›
  have k2:g.last.kind=2:=eqI_t ‹_›
  unfold lastOkI
  rw [if_neg k0,if_pos (Or.inl k2),show inR g.last.player 0 1=false by assumption];rfl
 ·have k0 : ¬g.last.kind=0:=eqI_f ‹_›
  have k2:g.last.kind=3:=eqI_t ‹_›
  unfold lastOkI
  rw [if_neg k0,if_pos (Or.inr k2),show inR g.last.player 0 1=true by assumption];rfl
 ·have k0 : ¬g.last.kind=0:=eqI_f ‹_›
  have k2:g.last.kind=3:=eqI_t ‹_›
  unfold lastOkI
  rw [if_neg k0,if_pos (Or.inr k2),show inR g.last.player 0 1=false by assumption];rfl
 all_goals have k0 : ¬g.last.kind=0:=eqI_f ‹_›
 all_goals have k2 : ¬g.last.kind=2:=eqI_f ‹_›
 all_goals have k3 : ¬g.last.kind=3:=eqI_f ‹_›
 all_goals unfold lastOkI
 all_goals rw [if_neg k0,if_neg (by rintro (h | h);exact k2 h;exact k3 h)]
 ·rw [if_pos (eqI_t ‹_›)]
 ·rw [if_neg (eqI_f ‹_›)]
theorem gameI (g:Gm):gameB g=(shapeB g&&(twoB g&&((sideB g 0&&sideB g 1)&&(tilesF g&&(lastOkI g&&(g.over||decide (g.zeros<6))))))):=by
 unfold gameB
 cases h1:shapeB g
 ·rfl
 cases h2:twoB g
 ·rfl
 cases h3:sideB g 0
 ·rfl
 cases h4:sideB g 1
 ·rfl
 unfold shapeB at h1
 unfold twoB at h2
 unfold sideB at h3 h4
 simp only [Bool.and_eq_true] at h1 h2 h3 h4
 have e1:tilesF g=(gameTiles g==allT g.ts):=by
  unfold tilesF
  rw [tiles_same h1.2.1 h1.2.2.2.2 h3.1 h4.1]
 rw [e1,lastOk_same h3.1 h4.1 h2.2.2.2.1]
theorem g_shape {g:Gm} (h:shapeB g=false):gameB g=false:=by rw [gameI,h];rfl
theorem g_two {g:Gm} (h:twoB g=false):gameB g=false:=by rw [gameI,h];simp
theorem g_side {g:Gm} {k:Int} (h0:0≤k) (h1:k<2) (h:sideB g k.toNat=false):gameB g=false:=by
 have : k=0∨k=1:=by omega
 rcases this with rfl | rfl
 ·have h:sideB g 0=false:=h
  rw [gameI,h];simp
 ·have h:sideB g 1=false:=h
  rw [gameI,h];simp
theorem g_end {g:Gm} (h1:shapeB g=true) (h2:twoB g=true) (h3:sideB g 0=true) (h4:sideB g 1=true):gameB g=(tilesF g&&(lastOkI g&&(g.over||decide (g.zeros<6)))):=by
 rw [gameI,h1,h2,h3,h4];rfl
structure GmQ (g:Gm):Prop where
 su:SuQ (gSu g)
 bd:BdP g.bd
 bag:g.bag.length≤274877906944
 rks : ∀k:Int,(g.racks.getD k.toNat []).length ≤274877906944
 wd:(g.last.play.word.length:Int)≤1073741824
 dr:g.last.drawn.length≤274877906944
 bf:BdP g.bef
theorem tfp_of {g:Gm} (h1:shapeB g=true) (h2:twoB g=true) (h3:sideB g 0=true) (h4:sideB g 1=true):TfP g:=by
 unfold shapeB setupB at h1
 unfold twoB at h2
 unfold sideB at h3 h4
 simp only [Bool.and_eq_true,decide_eq_true_eq] at h1 h2 h3 h4
 obtain⟨a1,a2,a3⟩:=tsB_all h1.1.1
 exact⟨⟨a1,a2,a3⟩,h1.2.1,h1.2.2.2.2,h2.1,h3.1,h4.1⟩
theorem pfq_of {g:Gm} (hp:GmQ g) (h1:shapeB g=true) (h2:twoB g=true) (h3:sideB g 0=true) (h4:sideB g 1=true):PfQ g:=by
 unfold shapeB setupB at h1
 unfold twoB at h2
 unfold sideB at h3 h4
 simp only [Bool.and_eq_true,decide_eq_true_eq] at h1 h2 h3 h4
 exact⟨tsB_ok h1.1.1,h2.1,h2.2.2.2.1,h3.1,h4.1,hp.bf,hp.wd,hp.dr⟩
def sp_i_ValidGame (p:Pr):FSpec:=fsp (a1 (aA aGm)) (fun g=>GmQ g) (fun g=>.b (gameB g))
theorem ok_i_ValidGame:FOk Tryz.prog 14 (sp_i_ValidGame std):=by
 refine FOk.go (c:=cx std [(12,sp_i_ValidSetup std),(70,sp_i_ValidBoard std),(57,sp_i_ValidBag std),(72,sp_i_within std),(73,sp_i_ValidRack std),(74,sp_i_Game_tilesFit std),(75,sp_i_Game_lastFits std)] [] 0) (cx_ok (.cons ok_i_ValidSetup (.cons ok_i_ValidBoard (.cons ok_i_ValidBag (.cons ok_i_within (.cons ok_i_ValidRack (.cons ok_i_Game_tilesFit (.cons ok_i_Game_lastFits .nil))))))) .nil) mixed Tryz.func14 rfl rfl rfl (by kernel_rfl) ?_
 rintro g hp
 refine⟨rfl,?_⟩
 unfold sp_i_ValidSetup sp_i_ValidBoard sp_i_ValidBag sp_i_within sp_i_ValidRack sp_i_Game_tilesFit sp_i_Game_lastFits
 obtain⟨H,hH⟩ : ∃H:Hd (Int),H=⟨fun k=>0≤k∧k≤2∧(0<k→sideB g 0=true)∧(1<k→sideB g 1=true),fun k=>(2-k).toNat,(· < ·)⟩:=⟨_,rfl⟩
 have hl : ∀m n,H.lt m n→m<n:=by subst hH;exact fun _ _ h=>h
 generalize hP:std=p,hB0:gameB=B0,hB1:suB=B1,hB2:bdB=B2,hB3:bagB=B3,hB4:inR=B4,hB5:rackB=B5,hB6:tilesF=B6,hB7:lastOkI=B7
 cbv
 repeat' first
  | (refine fun (_:Unit)=>?_;cbv)
  | (refine Or.inr ⟨66,[],[.s 65 (.i .i64)],[],[],H,rfl,hl,?_,fun (k:Int) hk=>?_⟩<;>cbv)
  | (refine aI2 (fun h=>?_) (fun h=>?_)<;>cbv)
  | (refine aI2 ?_ ?_)
 all_goals subst hP hB0 hB1 hB2 hB3 hB4 hB5 hB6 hB7 hH
 all_goals clear hl
 all_goals try dsimp only at hk
 all_goals try dsimp only
 all_goals try exact fin
 all_goals try (have hs:shapeB g=true:=by rw [shapeE];simp only [*,Bool.not_false,Bool.true_and,Bool.and_true])
 all_goals try (have hr2:g.racks.length=2:=by have:=(len2 g.racks).symm.trans (show std.eqI (std.len g.racks) 2=true by assumption);simpa using this)
 all_goals try (obtain⟨q0,q1,q2,q3⟩:=hk)
 all_goals try (have hlt:k<2:=by have h7:k<(g.racks.length:Int):=lt_of ‹_›;omega)
 all_goals try (have hge:2≤k:=by have h7:(g.racks.length:Int)≤k:=ge_of ‹_›;omega)
 all_goals try (have hsd0:=q2 (by omega);have hsd1:=q3 (by omega))
 all_goals try (have htw:twoB g=true:=by rw [twoE];simp only [*,Bool.not_false,Bool.true_and,Bool.and_true])
 all_goals first
  | exact hp.su
  | exact ltM_of hp.bag
  | exact ltM_of (hp.rks k)
  | (refine g_shape ?_;rw [shapeE];simp only [*,Bool.not_false,Bool.true_and,Bool.false_and];done)
  | (refine g_two ?_;rw [twoE];simp only [*,Bool.not_false,Bool.true_and,Bool.false_and,Bool.and_false];done)
  | exact g_side q0 hlt (side_n1 ‹_›)
  | exact g_side q0 hlt (side_n2 q0 ‹_›)
  | exact g_side q0 hlt (side_n3 q0 ‹_›)
  | exact side_suc q0 hlt q2 q3 ‹_› ‹_› ‹_›
  | exact tfp_of hs htw hsd0 hsd1
  | exact pfq_of hp hs htw hsd0 hsd1
  | (rw [g_end hs htw hsd0 hsd1,show g.over=false by assumption,z_full ‹_›];simp;done)
  | (rw [g_end hs htw hsd0 hsd1];show lastOkI g=_;rw [show tilesF g=true by assumption,show g.over=true by assumption];simp;done)
  | (rw [g_end hs htw hsd0 hsd1,show tilesF g=true by assumption,z_less ‹_› ‹_›];simp;done)
  | (rw [g_end hs htw hsd0 hsd1,show tilesF g=false by assumption];rfl)
  | skip
end Ax
namespace Ax
set_option maxRecDepth 100000
set_option maxHeartbeats 2000000
structure GmF (g:Gm):Prop where
 s:g.scores.length=2
 k:g.clocks.length=2
 r:g.racks.length=2
 ply:inR g.player 0 1=true
 clk : ∀k:Int,0≤k→k<2→inR (g.clk k) (-36000) 36000=true
theorem gm_facts {g:Gm} (h:gameB g=true):GmF g:=by
 unfold gameB twoB sideB at h
 simp only [Bool.and_eq_true,decide_eq_true_eq] at h
 refine⟨h.2.1.2.1,h.2.1.2.2.1,h.2.1.1,h.2.1.2.2.2.1,fun k h0 h1=>?_⟩
 have : k=0∨k=1:=by omega
 rcases this with rfl | rfl
 ·exact h.2.2.1.1.2.2
 ·exact h.2.2.1.2.2.2
theorem act_over {g:Gm} {n:Int} (h:gameB g=true) (ho:g.over=true):actC g n=10:=by
 unfold actC;rw [if_pos h,if_pos ho]
theorem act_2a {g:Gm} {n:Int} (h:gameB g=true) (ho:g.over=false) (hn:inR n 0 36000=false):actC g n=2:=by
 unfold actC;rw [if_pos h,if_neg (by rw [ho];simp),hn,if_neg (by simp)]
theorem act_2b {g:Gm} {n:Int} (h:gameB g=true) (ho:g.over=false) (hn:std.ltI (g.clk g.player-n) (-36000)=true):actC g n=2:=by
 have h1:=lt_of hn
 unfold actC;rw [if_pos h,if_neg (by rw [ho];simp),decide_eq_false (by omega),Bool.and_false,if_neg (by simp)]
theorem act_go {g:Gm} {n:Int} (h:gameB g=true) (ho:g.over=false) (hi:inR n 0 36000=true) (hn:std.ltI (g.clk g.player-n) (-36000)=false):actC g n=if inR (g.sc 0) (-50000) 50000&&inR (g.sc 1) (-50000) 50000 then 0 else 5:=by
 have h1:=ge_of hn
 unfold actC;rw [if_pos h,if_neg (by rw [ho];simp),hi,decide_eq_true (by omega)];rfl
theorem act_k {a b:Bool} {k:Int} (h0:0≤k) (h1:k<2) (ha:k=0→a=false) (hb:k=1→b=false):(if (a&&b)=true then (0:Int) else 5)=5:=by
 have : k=0∨k=1:=by omega
 rcases this with h | h
 ·rw [ha h];rfl
 ·rw [hb h,Bool.and_false];rfl
def sp_i_actionCode (p:Pr):FSpec:=fsp (ac (aA aGm) (a1 aI)) (fun (g,n)=>GmQ g) (fun (g,n)=>.i .i64 (actC g n))
theorem ok_i_actionCode:FOk Tryz.prog 88 (sp_i_actionCode std):=by
 refine FOk.go (c:=cx std [(14,sp_i_ValidGame std),(72,sp_i_within std)] [] 0) (cx_ok (.cons ok_i_ValidGame (.cons ok_i_within .nil)) .nil) mixed Tryz.func88 rfl rfl rfl (by kernel_rfl) ?_
 rintro ⟨g,n⟩ hp
 dsimp only at hp
 refine⟨rfl,?_⟩
 unfold sp_i_ValidGame sp_i_within
 obtain⟨H,hH⟩ : ∃H:Hd (Int),H=⟨fun k=>0≤k∧k≤2∧(0<k→inR (g.scores.getD 0 0) (-50000) 50000=true)∧(1<k→inR (g.scores.getD 1 0) (-50000) 50000=true),fun k=>(2-k).toNat,(· < ·)⟩:=⟨_,rfl⟩
 have hl : ∀m n,H.lt m n→m<n:=by subst hH;exact fun _ _ h=>h
 generalize hP:std=p,hB0:actC=B0,hB1:gameB=B1,hB2:inR=B2
 cbv
 repeat' first
  | (refine fun (_:Unit)=>?_;cbv)
  | (refine Or.inr ⟨33,[],[.s 32 (.i .i64)],[],[],H,rfl,hl,?_,fun (k:Int) hk=>?_⟩<;>cbv)
  | (refine aI2 (fun h=>?_) (fun h=>?_)<;>cbv)
  | (refine aI2 ?_ ?_)
 all_goals subst hP hB0 hB1 hB2 hH
 all_goals clear hl
 all_goals try dsimp only at hk
 all_goals try dsimp only
 all_goals try exact fin
 all_goals try (have hf:=gm_facts (show gameB g=true by assumption))
 all_goals try (have hpl:=in_bd hf.ply)
 all_goals try (have hck:=in_bd (hf.clk g.player hpl.1 (by omega)))
 all_goals try (have hn:=in_bd (show inR n 0 36000=true by assumption))
 all_goals try (obtain⟨q0,q1,q2,q3⟩:=hk)
 all_goals try (have hss:=hf.s)
 all_goals try (have hlt:k<2:=by have h7:k<(g.scores.length:Int):=lt_of ‹_›;omega)
 all_goals try (have hge:2≤k:=by have h7:(g.scores.length:Int)≤k:=ge_of ‹_›;omega)
 ·unfold actC;rw [if_neg (by rw [show gameB g=false by assumption];simp)]
 ·rw [act_over ‹_› ‹_›]
 ·exact⟨hpl.1,by show g.player<(g.clocks.length:Int);have:=hf.k;omega⟩
 ·exact in64 (by show _≤g.clk g.player-n∧g.clk g.player-n≤_;omega)
 ·rw [act_2b ‹_› ‹_› ‹_›]
 ·have hb:inR (g.sc k) (-50000) 50000=false:=by assumption
  rw [act_go ‹_› ‹_› ‹_› ‹_›,act_k q0 hlt (fun e=>by rw [←e];exact hb) (fun e=>by rw [←e];exact hb)]
 ·have hb:inR (g.sc k) (-50000) 50000=true:=by assumption
  have : k=0∨k=1:=by omega
  rcases this with rfl | rfl
  ·exact⟨by decide,by decide,fun _=>hb,fun h=>absurd h (by decide)⟩
  ·exact⟨by decide,by decide,fun _=>q2 (by decide),fun _=>hb⟩
 ·show (2-(k+1)).toNat < (2-k).toNat
  omega
 ·have a0:inR (g.sc 0) (-50000) 50000=true:=q2 (by omega)
  have a1:inR (g.sc 1) (-50000) 50000=true:=q3 (by omega)
  rw [act_go ‹_› ‹_› ‹_› ‹_›,a0,a1];rfl
 ·rw [act_2a ‹_› ‹_› ‹_›]
def tdI (a b:List UInt8):Int:=min (7-(b.length:Int)) (a.length:Int)
structure TdP (a b:List UInt8):Prop where
 a:a.length≤274877906944
 b:b.length≤274877906944
def sp_i_toDraw (p:Pr):FSpec:=fsp (ac aS (a1 aS)) (fun (a,b)=>TdP a b) (fun (a,b)=>.i .i64 (tdI a b))
theorem ok_i_toDraw:FOk Tryz.prog 307 (sp_i_toDraw std):=by
 refine FOk.go (c:=cx std [] [] 0) (cx_ok .nil .nil) mixed Tryz.func307 rfl rfl rfl (by kernel_rfl) ?_
 rintro ⟨a,b⟩ hp
 dsimp only at hp
 refine⟨rfl,?_⟩
 generalize hP:std=p,hB0:tdI=B0
 cbv
 repeat' first
  | (refine fun (_:Unit)=>?_;cbv)
  | (refine aI2 (fun h=>?_) (fun h=>?_)<;>cbv)
  | (refine aI2 ?_ ?_)
  | (refine Or.inl (fun (_:Unit)=>?_);cbv)
 all_goals subst hP hB0
 all_goals try exact fin
 ·have h1:=hp.b
  exact in64 (by show _≤7-(b.length:Int)∧7-(b.length:Int)≤_;omega)
def sp_i_penalty (p:Pr):FSpec:=fsp (a1 aI) (fun n=>p.leP (-36000) n) (fun n=>.i .i64 (pen n))
theorem ok_i_penalty:FOk Tryz.prog 86 (sp_i_penalty std):=by
 refine FOk.go (c:=cx std [] [] 0) (cx_ok .nil .nil) mixed Tryz.func86 rfl rfl rfl (by kernel_rfl) ?_
 rintro n hp
 refine⟨rfl,?_⟩
 generalize hP:std=p,hB0:pen=B0
 cbv
 repeat' first
  | (refine fun (_:Unit)=>?_;cbv)
  | (refine aI2 (fun h=>?_) (fun h=>?_)<;>cbv)
  | (refine aI2 ?_ ?_)
  | (refine Or.inl (fun (_:Unit)=>?_);cbv)
 all_goals subst hP hB0
 all_goals try exact fin
 ·simp [std] at h;simp [pen,h]
 ·simp [std] at h
  have h1 : ¬0≤n:=by omega
  have h2:(59-n).tdiv 60=(59-n)/60:=Int.tdiv_eq_ediv_of_nonneg (by omega)
  have h3:(0-n+59)=59-n:=by omega
  simp [std,pen,h1]
  first | (rw [←h2];congr 2;omega) | (rw [show -n+59=59-n by omega,h2]) | (rw [h3,h2])
def sp_i_Game_finalChange_o (p:Pr):FSpec:=fsp (a1 (aA aGm)) (fun g=>EndP g) (fun g=>.osl 0) (fun g=>[(0,.own [.i .i64] (chgs g) 2)])
theorem ok_i_Game_finalChange_o:FOk Tryz.prog 83 (sp_i_Game_finalChange_o std):=by
 refine FOk.go (c:=cx std [(163,sp_i_lettersValue std),(86,sp_i_penalty std)] [] 0) (cx_ok (.cons ok_i_lettersValue (.cons ok_i_penalty .nil)) .nil) mixed Tryz.func83 rfl rfl rfl (by kernel_rfl) ?_
 rintro g hp
 refine⟨rfl,?_⟩
 unfold sp_i_lettersValue sp_i_penalty
 obtain⟨H,hH⟩ : ∃H:Hd (Int×List Int),H=⟨fun (k,L)=>0≤k∧k≤2∧L=(chgs g).take k.toNat,fun (k,L)=>(2-k).toNat,(· < ·)⟩:=⟨_,rfl⟩
 have hl : ∀m n,H.lt m n→m<n:=by subst hH;exact fun _ _ h=>h
 generalize hP:std=p,hB0:chgs=B0,hB1:sumT=B1,hB2:pen=B2
 cbv
 repeat' first
  | (refine fun (_:Unit)=>?_;cbv)
  | (refine Or.inr ⟨12,[],[.s 11 (.i .i64),.o 1 [.i .i64]],[.s 3],[],H,rfl,hl,?_,fun ((k,L):Int×List Int) hk=>?_⟩<;>cbv)
  | (refine aI2 (fun h=>?_) (fun h=>?_)<;>cbv)
  | (refine aI2 ?_ ?_)
 all_goals subst hP hB0 hB1 hB2 hH
 all_goals clear hl
 all_goals try dsimp only at hk
 all_goals try dsimp only
 all_goals try exact fin
 all_goals obtain⟨q0,q1,rfl⟩:=hk
 all_goals have a1:=e_sum hp k
 all_goals have a2:=e_pen hp k
 all_goals have a3:=e_sum hp (1-k)
 all_goals have a4:=hp.rk
 all_goals have a5:=hp.ck
 all_goals have a6:=hp.len k
 all_goals have a7:=hp.len (1-k)
 all_goals have a8:=hp.clk k
 all_goals try (have h1:k<2:=by have h7:k<(g.racks.length:Int):=lt_of ‹_›;omega)
 ·exact ltM_of (n:=(g.rk k).length) (by omega)
 ·exact in64 (by show _≤0-sumT g.ts (g.rk k)∧0-sumT g.ts (g.rk k)≤_;omega)
 ·exact⟨q0,by show k<(g.clocks.length:Int);omega⟩
 ·exact a8
 ·exact in64 (by show _≤0-sumT g.ts (g.rk k)-pen (g.clk k)∧0-sumT g.ts (g.rk k)-pen (g.clk k)≤_;omega)
 ·exact⟨by show 0≤1-k;omega,by show 1-k<(g.racks.length:Int);omega⟩
 ·exact ltM_of (n:=(g.rk (1-k)).length) (by omega)
 ·exact in64 (by show _≤0-sumT g.ts (g.rk k)-pen (g.clk k)+sumT g.ts (g.rk (1-k))∧0-sumT g.ts (g.rk k)-pen (g.clk k)+sumT g.ts (g.rk (1-k))≤_;omega)
 ·show (((chgs g).take k.toNat).length : Int)+1≤_
  rw [List.length_take];omega
 ·refine⟨by show 0≤k+1;omega,by show k+1≤2;omega,?_⟩
  show (chgs g).take k.toNat++[0-sumT g.ts (g.rk k)-pen (g.clk k)+sumT g.ts (g.rk (1-k))]=(chgs g).take (k+1).toNat
  rw [e_yes (k:=k) ‹_›,chgs_step q0 h1]
 ·show (2-(k+1)).toNat < (2-k).toNat
  omega
 ·show (((chgs g).take k.toNat).length : Int)+1≤_
  rw [List.length_take];omega
 ·refine⟨by show 0≤k+1;omega,by show k+1≤2;omega,?_⟩
  show (chgs g).take k.toNat++[0-sumT g.ts (g.rk k)-pen (g.clk k)]=(chgs g).take (k+1).toNat
  rw [e_no (k:=k) ‹_›,chgs_step q0 h1]
 ·show (2-(k+1)).toNat < (2-k).toNat
  omega
 ·have h7:(g.racks.length:Int)≤k:=ge_of ‹_›
  rw [tk_all (show ((chgs g).length : Int)≤k by show (2:Int)≤k;omega)]
def frR (a b:List UInt8):List UInt8:=if bagB a&&rackB b then pileL (countsL (b++a.take (tdI a b).toNat)) else []
def frB (a b:List UInt8):List UInt8:=if bagB a&&rackB b then a.drop (tdI a b).toNat else []
def frC (a b:List UInt8):Int:=if bagB a&&rackB b then 0 else 1
theorem td_bd {a b:List UInt8} (h:rackB b=true):0≤tdI a b∧tdI a b≤a.length∧tdI a b≤7:=by
 have:=rack_len h
 unfold tdI;omega
theorem fr_stp {a b:List UInt8} {n:Nat} (ha:bagB a=true) (hb:rackB b=true):StP (b++a.take n):=by
 have h1:=(bag_stp ha).ti
 have h2:=(rack_stp hb).ti
 have h3:=bag_len ha
 have h4:=rack_len hb
 refine⟨?_,by rw [List.length_append,List.length_take];omega⟩
 rw [List.all_append,h2,Bool.true_and]
 exact List.all_eq_true.2 fun x hx=>List.all_eq_true.1 h1 x (List.mem_of_mem_take hx)
def sp_i_FillRack (p:Pr):FSpec:=fsp (ac aS (a1 aS)) (fun (a,b)=>TdP a b) (fun (a,b)=>.tup [.s (frR a b),.s (frB a b),.i .i64 (frC a b)])
theorem ok_i_FillRack:FOk Tryz.prog 308 (sp_i_FillRack std):=by
 refine FOk.go (c:=cx std [(57,sp_i_ValidBag std),(73,sp_i_ValidRack std),(307,sp_i_toDraw std),(58,sp_i_sorted std)] [] 0) (cx_ok (.cons ok_i_ValidBag (.cons ok_i_ValidRack (.cons ok_i_toDraw (.cons ok_i_sorted .nil)))) .nil) mixed Tryz.func308 rfl rfl rfl (by kernel_rfl) ?_
 rintro ⟨a,b⟩ hp
 dsimp only at hp
 refine⟨rfl,?_⟩
 unfold sp_i_ValidBag sp_i_ValidRack sp_i_toDraw sp_i_sorted
 generalize hP:std=p,hB0:frR=B0,hB1:frB=B1,hB2:frC=B2,hB3:tdI=B3,hB4:bagB=B4,hB5:rackB=B5,hB6:pileL=B6,hB7:countsL=B7
 cbv
 repeat' first
  | (refine fun (_:Unit)=>?_;cbv)
  | (refine aI2 (fun h=>?_) (fun h=>?_)<;>cbv)
  | (refine aI2 ?_ ?_)
  | (refine Or.inl (fun (_:Unit)=>?_);cbv)
 all_goals subst hP hB0 hB1 hB2 hB3 hB4 hB5 hB6 hB7
 all_goals try exact fin
 all_goals try (have hr:rackB b=true:=‹_›;have ht:=td_bd (a:=a) hr;have hrl:=rack_len hr)
 all_goals try (have hb:bagB a=true:=‹_›;have hbl:=bag_len hb)
 all_goals try (have hn:rackB b=false:=by assumption)
 all_goals try (have hm:bagB a=false:=by assumption)
 ·exact ltM_of hp.a
 ·exact ltM_of hp.b
 ·unfold frR;rw [hn];simp
 ·unfold frB;rw [hn];simp
 ·unfold frC;rw [hn];simp
 ·exact ht.1
 ·exact ht.2.1
 ·have h5:(a.take (tdI a b).toNat).length ≤a.length:=by rw [List.length_take];omega
  exact in64 (by show _≤(b.length:Int)+((a.take (tdI a b).toNat).length : Int)∧(b.length:Int)+((a.take (tdI a b).toNat).length : Int)≤_;omega)
 ·exact fr_stp hb hr
 ·exact ht.1
 ·exact ht.2.1
 ·unfold frR;rw [hb,hr];rfl
 ·unfold frB;rw [hb,hr];rfl
 ·unfold frC;rw [hb,hr];rfl
 ·unfold frR;rw [hm];simp
 ·unfold frB;rw [hm];simp
 ·unfold frC;rw [hm];simp
structure TcP (t:TS):Prop where
 v:(t.values.length:Int)≤1073741824
 c:(t.counts.length:Int)≤1073741824
def sp_i_copyTiles (p:Pr):FSpec:=fsp (a1 (aA aTs)) (fun t=>TcP t) (fun t=>.agg (tsK t (.osl 0) (.osl 1))) (fun t=>[(0,.own [.i .i64] t.values 2),(1,.own [.i .i64] t.counts 2)])
theorem ok_i_copyTiles:FOk Tryz.prog 141 (sp_i_copyTiles std):=by
 refine FOk.go (c:=cx std [(206,sp_cloneN std)] [] 0) (cx_ok (.cons ok_cloneN .nil) .nil) mixed Tryz.func141 rfl rfl rfl (by kernel_rfl) ?_
 rintro t hp
 refine⟨rfl,?_⟩
 unfold sp_cloneN
 generalize hP:std=p
 cbv
 repeat' first
  | (refine fun (_:Unit)=>?_;cbv)
  | (refine aI2 (fun h=>?_) (fun h=>?_)<;>cbv)
  | (refine aI2 ?_ ?_)
  | (refine Or.inl (fun (_:Unit)=>?_);cbv)
 all_goals subst hP
 all_goals try exact fin
 ·exact hp.v
 ·exact hp.c
def sp_i_copyLexicon (p:Pr):FSpec:=fsp (a1 (aA aLex)) (fun ws=>p.leP (p.len ws) 1073741824) (fun ws=>.agg [.osl 0]) (fun ws=>[(0,.own [.s] ws 9)])
theorem ok_i_copyLexicon:FOk Tryz.prog 142 (sp_i_copyLexicon std):=by
 refine FOk.go (c:=cx std [(207,sp_cloneW std)] [] 0) (cx_ok (.cons ok_cloneW .nil) .nil) mixed Tryz.func142 rfl rfl rfl (by kernel_rfl) ?_
 rintro ws hp
 refine⟨rfl,?_⟩
 unfold sp_cloneW
 generalize hP:std=p
 cbv
 repeat' first
  | (refine fun (_:Unit)=>?_;cbv)
  | (refine aI2 (fun h=>?_) (fun h=>?_)<;>cbv)
  | (refine aI2 ?_ ?_)
  | (refine Or.inl (fun (_:Unit)=>?_);cbv)
 all_goals subst hP
 all_goals try exact fin
structure SuC (u:Su):Prop where
 ts:TcP u.ts
 l:(u.lex.length:Int)≤1073741824
def sp_i_copySetup (p:Pr):FSpec:=fsp (a1 (aA aSu)) (fun u=>SuC u) (fun u=>.agg (suK u (.osl 0) (.osl 1) (.osl 2))) (fun u=>[(0,.own [.i .i64] u.ts.values 2),(1,.own [.i .i64] u.ts.counts 2),(2,.own [.s] u.lex 9)])
theorem ok_i_copySetup:FOk Tryz.prog 60 (sp_i_copySetup std):=by
 refine FOk.go (c:=cx std [(141,sp_i_copyTiles std),(142,sp_i_copyLexicon std)] [] 0) (cx_ok (.cons ok_i_copyTiles (.cons ok_i_copyLexicon .nil)) .nil) mixed Tryz.func60 rfl rfl rfl (by kernel_rfl) ?_
 rintro u hp
 refine⟨rfl,?_⟩
 unfold sp_i_copyTiles sp_i_copyLexicon
 generalize hP:std=p
 cbv
 repeat' first
  | (refine fun (_:Unit)=>?_;cbv)
  | (refine aI2 (fun h=>?_) (fun h=>?_)<;>cbv)
  | (refine aI2 ?_ ?_)
  | (refine Or.inl (fun (_:Unit)=>?_);cbv)
 all_goals subst hP
 all_goals try exact fin
 ·exact hp.l
structure GcP (g:Gm):Prop where
 su:SuC (gSu g)
 r:(g.racks.length:Int)≤1073741824
 s:(g.scores.length:Int)≤1073741824
 k:(g.clocks.length:Int)≤1073741824
def sp_i_copyGame (p:Pr):FSpec:=fsp (a1 (aA aGm)) (fun g=>GcP g) (fun g=>.ptr 0 0) (fun g=>gmH g)
theorem ok_i_copyGame:FOk Tryz.prog 165 (sp_i_copyGame std):=by
 refine FOk.go (c:=cx std [(60,sp_i_copySetup std),(206,sp_cloneN std),(207,sp_cloneW std)] [] 0) (cx_ok (.cons ok_i_copySetup (.cons ok_cloneN (.cons ok_cloneW .nil))) .nil) mixed Tryz.func165 rfl rfl rfl (by kernel_rfl) ?_
 rintro g hp
 refine⟨rfl,?_⟩
 unfold sp_i_copySetup sp_cloneN sp_cloneW
 generalize hP:std=p
 cbv
 repeat' first
  | (refine fun (_:Unit)=>?_;cbv)
  | (refine aI2 (fun h=>?_) (fun h=>?_)<;>cbv)
  | (refine aI2 ?_ ?_)
  | (refine Or.inl (fun (_:Unit)=>?_);cbv)
 all_goals subst hP
 all_goals try exact fin
 all_goals first | exact hp.su | exact hp.r | exact hp.s | exact hp.k | skip
end Ax
namespace Ax
set_option maxRecDepth 100000
set_option maxHeartbeats 2000000
def setS (g:Gm) (b:Bool):List Int:=if b then setSc g else g.scores
def ovB (g:Gm) (b:Bool):Bool:=g.over||b
def setT (g:Gm) (k:Int):List Int:=[if 0<k then g.sc 0+chg g 0 else g.sc 0,if 1<k then g.sc 1+chg g 1 else g.sc 1]
structure SetQ (g:Gm) (b:Bool):Prop where
 s:b=true→SetP g
theorem two_list {L:List Int} (h:L.length=2):L=[L.getD 0 0,L.getD 1 0]:=by
 match L,h with
 | [a,b],_=>rfl
theorem setT_0 {g:Gm} (h:g.scores.length=2):g.scores=setT g 0:=two_list h
theorem setT_2 (g:Gm) {k:Int} (h:2≤k):setT g k=setSc g:=by
 unfold setT setSc
 rw [if_pos (by omega),if_pos (by omega)]
theorem setT_s (g:Gm) {k:Int} (h0:0≤k) (h1:k<2):(setT g k).set k.toNat ((setT g k).getD k.toNat 0+(chgs g).getD k.toNat 0)=setT g (k+1):=by
 have : k=0∨k=1:=by omega
 rcases this with rfl | rfl<;>simp [setT,chgs]
theorem setT_n {g:Gm} (h:SetP g) {k:Int} (h0:0≤k) (h1:k<2) : -9223372036854775808≤(setT g k).getD k.toNat 0+(chgs g).getD k.toNat 0∧(setT g k).getD k.toNat 0+(chgs g).getD k.toNat 0≤9223372036854775807:=by
 have : k=0∨k=1:=by omega
 have a0:=set_num h 0
 have a1:=set_num h 1
 rcases this with rfl | rfl
 ·simpa [setT,chgs] using a0
 ·simpa [setT,chgs] using a1
def sp_i_xGame_settle (p:Pr):MSpec:=msp (mG (a1 aB)) (fun (g,b)=>SetQ g b) (fun (g,b)=>.tup []) (fun (g,b)=>gmH { g with scores:=setS g b,over:=ovB g b })
theorem ok_i_xGame_settle:MOk Tryz.prog 90 (sp_i_xGame_settle std):=by
 refine MOk.go (c:=cx std [(83,sp_i_Game_finalChange_o std)] [] 7) (cx_ok (.cons ok_i_Game_finalChange_o .nil) .nil) mixed Tryz.func90 rfl rfl (by kernel_rfl) ?_
 rintro ⟨g,b⟩ hp
 dsimp only at hp
 refine⟨rfl,?_⟩
 unfold sp_i_Game_finalChange_o
 obtain⟨H,hH⟩ : ∃H:Hd (Int×List Int),H=⟨fun (k,L)=>0≤k∧k≤2∧L=setT g k,fun (k,L)=>(2-k).toNat,(· < ·)⟩:=⟨_,rfl⟩
 have hl : ∀m n,H.lt m n→m<n:=by subst hH;exact fun _ _ h=>h
 generalize hP:std=p,hB0:chgs=B0,hB1:setS=B1,hB2:setT=B2,hB3:ovB=B3
 cbv
 repeat' first
  | (refine fun (_:Unit)=>?_;cbv)
  | (refine Or.inr ⟨14,[],[.s 13 (.i .i64),.o 5 [.i .i64]],[],[],H,rfl,hl,?_,fun ((k,L):Int×List Int) hk=>?_⟩<;>cbv)
  | (refine aI2 (fun h=>?_) (fun h=>?_)<;>cbv)
  | (refine aI2 ?_ ?_)
 all_goals subst hP hB0 hB1 hB2 hB3 hH
 all_goals clear hl
 all_goals try dsimp only at hk
 all_goals try dsimp only
 all_goals try exact fin
 ·unfold ovB;rw [show b=false by assumption,Bool.or_false]
 ·unfold setS;rw [show b=false by assumption];rfl
 all_goals (have hs:=hp.s ‹_›)
 ·exact hs.en
 ·exact⟨Int.le_refl 0,by decide,setT_0 hs.len⟩
 all_goals obtain⟨q0,q1,rfl⟩:=hk
 all_goals try (have hlt:k<2:=lt_of ‹_›)
 ·exact⟨q0,hlt⟩
 ·exact⟨q0,hlt⟩
 ·exact in64 (setT_n hs q0 hlt)
 ·exact⟨q0,hlt⟩
 ·exact⟨q0,hlt⟩
 ·exact⟨by show 0≤k+1;omega,by show k+1≤2;omega,setT_s g q0 hlt⟩
 ·show (2-(k+1)).toNat < (2-k).toNat
  omega
 ·unfold ovB;rw [show b=true by assumption,Bool.or_true]
 ·have hge:(2:Int)≤k:=ge_of ‹_›
  unfold setS;rw [show b=true by assumption,setT_2 g hge];rfl
end Ax
end Go.Proofs.YtghmphmbpdiflaaGreatDoor
