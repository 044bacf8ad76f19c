/-
  Tiles of a game, whether one waits, whether the last play and the last turn fit, of the impl package; Whether the last turn fits, valid games, codes of actions, of the impl package; Codes of actions, draws, ends, copies, of the impl package; Valid games, codes of actions, turns with a play, of the spec package; Codes of actions, of the spec package; The plain walker: a bounded result that is one value after all is told; The draws' source of choices; Texts of tile sets, plainly: parts, numbers in decimal, what is read; The draws' lexicon and boards, plainly; The ways to lay a word with a pile, plainly: there is one where the word can be made; Counts, and what a word needs: walked.
  Conditions: none.
-/
import Derived.Test.YtjjonmhpgkahoaaGreatDoorS19
import Derived.Test.YtjjonmhpgkahoaaGreatDoorS13
import Derived.Test.YtjjonmhpgkahoaaGreatDoorS15
import Derived.Test.YtjjonmhpgkahoaaGreatDoorS09
import Derived.Test.YtjjonmhpgkahoaaGreatDoorS11
import Derived.Test.YtjjonmhpgkahoaaGreatDoorS10
set_option linter.unusedSimpArgs false
set_option linter.unusedVariables false
namespace Go.Proofs.YtjjonmhpgkahoaaGreatDoor
namespace Ax
set_option maxRecDepth 100000
set_option maxHeartbeats 2000000
def tilesF (g:Gm):Bool:=pileL (countsL (((g.bag++g.racks.getD 0 [])++g.racks.getD 1 [])++tilesP (lettersS g.bd)))==allT g.ts
theorem rack_stp {s:List UInt8} (h:rackB s=true):StP s:=by
 have h1:=(rackB_asc h).1
 refine⟨h1,?_⟩
 unfold rackB at h
 rw [Bool.and_eq_true,decide_eq_true_eq] at h
 omega
theorem bag_stp {s:List UInt8} (h:bagB s=true):StP s:=by
 have h1:=bagB_tiles h
 refine⟨h1,?_⟩
 unfold bagB at h
 rw [Bool.and_eq_true,decide_eq_true_eq] at h
 omega
theorem tilesP_len (s:List UInt8):(tilesP s).length ≤27*s.length:=by
 have h1:=counts_ct (s.map blankC)
 rw [List.length_map] at h1
 exact pileTo_bd (c:=countsL (s.map blankC)) (m:=s.length) (fun j=>h1.hi j) 27
structure TfP (g:Gm):Prop where
 ts:TlP g.ts
 bd:bdB g.bd=true
 bag:bagB g.bag=true
 rk2:g.racks.length=2
 rk0:rackB (g.racks.getD 0 [])=true
 rk1:rackB (g.racks.getD 1 [])=true
def sp_i_Game_tilesFit (p:Pr):FSpec:=fsp (a1 (aA aGm)) (fun g=>TfP g) (fun g=>.b (tilesF g))
theorem ok_i_Game_tilesFit:FOk Tryz.prog 85 (sp_i_Game_tilesFit std):=by
 refine FOk.go (c:=cx std [(90,sp_i_Board_lettersOn std),(91,sp_i_tilesOf std),(69,sp_i_sorted std),(70,sp_i_allTiles std)] [] 0) (cx_ok (.cons ok_i_Board_lettersOn (.cons ok_i_tilesOf (.cons ok_i_sorted (.cons ok_i_allTiles .nil)))) .nil) mixed Tryz.func85 rfl rfl rfl (by kernel_rfl) ?_
 rintro g hp
 refine⟨rfl,?_⟩
 unfold sp_i_Board_lettersOn sp_i_tilesOf sp_i_sorted sp_i_allTiles
 generalize hP:std=p,hB0:tilesF=B0,hB1:pileL=B1,hB2:countsL=B2,hB3:tilesP=B3,hB4:lettersS=B4,hB5:allT=B5
 cbv
 repeat' first
  | (refine fun (_:Unit)=>?_;cbv)
  | (refine aI2 (fun h=>?_) (fun h=>?_)<;>cbv)
  | (refine aI2 ?_ ?_)
  | (refine Or.inl (fun (_:Unit)=>?_);cbv)
 all_goals subst hP hB0 hB1 hB2 hB3 hB4 hB5
 all_goals try exact fin
 all_goals (have hb:=bag_len hp.bag;have h0:=rack_len hp.rk0;have h1:=rack_len hp.rk1;have hr:=hp.rk2;have hll:=lettersS_len g.bd (bdB.fit hp.bd);have htl:=tilesP_len (lettersS g.bd))
 ·exact⟨Int.le_refl 0,by show (0:Int)<(g.racks.length:Int);omega⟩
 ·exact in64 (by show _≤(g.bag.length:Int)+((g.racks.getD 0 []).length : Int)∧(g.bag.length:Int)+((g.racks.getD 0 []).length : Int)≤_;omega)
 ·exact⟨by decide,by show (1:Int)<(g.racks.length:Int);omega⟩
 ·exact in64 (by
   show _≤((g.bag++g.racks.getD 0 []).length : Int)+((g.racks.getD 1 []).length : Int)∧((g.bag++g.racks.getD 0 []).length : Int)+((g.racks.getD 1 []).length : Int)≤_
   rw [List.length_append];omega)
 ·exact bdB.fit hp.bd
 ·exact⟨cells_lett hp.bd,by show (lettersS g.bd).length ≤_;omega⟩
 ·exact in64 (by
   show _≤(((g.bag++g.racks.getD 0 [])++g.racks.getD 1 []).length : Int)+((tilesP (lettersS g.bd)).length : Int)∧(((g.bag++g.racks.getD 0 [])++g.racks.getD 1 []).length : Int)+((tilesP (lettersS g.bd)).length : Int)≤_
   rw [List.length_append,List.length_append];omega)
 ·refine⟨?_,?_⟩
  ·show (((g.bag++g.racks.getD 0 [])++g.racks.getD 1 [])++tilesP (lettersS g.bd)).all tileB=true
   rw [List.all_append,List.all_append,List.all_append,(bag_stp hp.bag).ti,(rack_stp hp.rk0).ti,(rack_stp hp.rk1).ti,show (tilesP (lettersS g.bd)).all tileB=true from pileL_tile' _];rfl
  ·show (((g.bag++g.racks.getD 0 [])++g.racks.getD 1 [])++tilesP (lettersS g.bd)).length ≤_
   rw [List.length_append,List.length_append,List.length_append];omega
structure PfQ (g:Gm):Prop where
 ts:TsOk g.ts
 rk2:g.racks.length=2
 ply:inR g.player 0 1=true
 rk0:rackB (g.racks.getD 0 [])=true
 rk1:rackB (g.racks.getD 1 [])=true
 bf:BdP g.bef
 wd:(g.last.play.word.length:Int)≤1073741824
 dr:g.last.drawn.length≤274877906944
theorem le_not (m n:Int):decide (m≤n)=!(std.ltI n m):=by
 show decide (m≤n)=!(decide (n<m))
 rw [Bool.eq_iff_iff]
 simp
theorem pfE (g:Gm):playOkI g=(inR g.last.player 0 1&&(std.eqI g.last.player (std.sub 1 g.player)&&(okI ⟨g.bd.size,g.bd.prem,g.last.before⟩ ⟨g.last.play.row,g.last.play.col,g.last.play.down,g.last.play.word⟩&&(
 std.and (std.eqI (madeB ⟨g.bd.size,g.bd.prem,g.last.before⟩ ⟨g.last.play.row,g.last.play.col,g.last.play.down,g.last.play.word⟩).size g.bd.size) (std.and (std.eqS (madeB ⟨g.bd.size,g.bd.prem,g.last.before⟩ ⟨g.last.play.row,g.last.play.col,g.last.play.down,g.last.play.word⟩).prem g.bd.prem) (std.eqS (madeB ⟨g.bd.size,g.bd.prem,g.last.before⟩ ⟨g.last.play.row,g.last.play.col,g.last.play.down,g.last.play.word⟩).cells g.bd.cells))&&(
 !(std.ltI 7 (std.len (nsI ⟨g.bd.size,g.bd.prem,g.last.before⟩ ⟨g.last.play.row,g.last.play.col,g.last.play.down,g.last.play.word⟩)))&&(bagB g.last.drawn&&(
 !(std.ltI (std.len (nsI ⟨g.bd.size,g.bd.prem,g.last.before⟩ ⟨g.last.play.row,g.last.play.col,g.last.play.down,g.last.play.word⟩)) (std.lenS g.last.drawn))&&(
 !(std.ltI 7 (std.add (std.sub (std.lenS (std.get [] g.racks g.last.player)) (std.lenS g.last.drawn)) (std.len (nsI ⟨g.bd.size,g.bd.prem,g.last.before⟩ ⟨g.last.play.row,g.last.play.col,g.last.play.down,g.last.play.word⟩))))&&(
 withoutB (std.get [] g.racks g.last.player) g.last.drawn&&(std.eqI g.last.score (scoreI ⟨g.ts.letters,g.ts.values,g.ts.counts,g.ts.blanks⟩ ⟨g.bd.size,g.bd.prem,g.last.before⟩ ⟨g.last.play.row,g.last.play.col,g.last.play.down,g.last.play.word⟩)&&(std.leI g.last.score 20000&&(inR g.last.zeros 0 5&&std.eqI g.zeros 0)))))))))))):=by
 have e1:decide ((newL g.bef g.last.play).length ≤7)=!(std.ltI 7 (std.len (nsI g.bef g.last.play))):=by
  rw [←le_not]
  show _=decide (((nsI g.bef g.last.play).length : Int)≤7)
  rw [ns_len,Bool.eq_iff_iff,decide_eq_true_eq,decide_eq_true_eq];omega
 have e2:decide (g.last.drawn.length≤(newL g.bef g.last.play).length)=!(std.ltI (std.len (nsI g.bef g.last.play)) (std.lenS g.last.drawn)):=by
  rw [←le_not]
  show _=decide ((g.last.drawn.length:Int)≤((nsI g.bef g.last.play).length : Int))
  rw [ns_len,Bool.eq_iff_iff,decide_eq_true_eq,decide_eq_true_eq];omega
 have e3:decide (((g.rk g.last.player).length : Int)-g.last.drawn.length+(newL g.bef g.last.play).length ≤7)=!(std.ltI 7 (std.add (std.sub (std.lenS (std.get [] g.racks g.last.player)) (std.lenS g.last.drawn)) (std.len (nsI g.bef g.last.play)))):=by
  rw [←le_not]
  show _=decide (((g.rk g.last.player).length : Int)-g.last.drawn.length+((nsI g.bef g.last.play).length : Int)≤7)
  rw [ns_len]
 unfold playOkI
 rw [e1,e2,e3]
 rfl
theorem VP.ok {b:Bd} {q:Pl} (h:okI b q=true):VP b q:=by
 unfold okI at h
 rw [Bool.and_eq_true] at h
 exact VP.of h.1 h.2
def sp_i_Game_playFits (p:Pr):FSpec:=fsp (a1 (aA aGm)) (fun g=>PfQ g) (fun g=>.b (playOkI g))
theorem ok_i_Game_playFits:FOk Tryz.prog 183 (sp_i_Game_playFits std):=by
 refine FOk.go (c:=cx std [(83,sp_i_within std),(134,sp_i_ValidPlay std),(119,sp_i_made std),(203,sp_i_newSquares std),(68,sp_i_ValidBag std),(116,sp_i_without std),(113,sp_i_scorePlay std)] [] 0) (cx_ok (.cons ok_i_within (.cons ok_i_ValidPlay (.cons ok_i_made (.cons ok_i_newSquares (.cons ok_i_ValidBag (.cons ok_i_without (.cons ok_i_scorePlay .nil))))))) .nil) mixed Tryz.func183 rfl rfl rfl (by kernel_rfl) ?_
 rintro g hp
 refine⟨rfl,?_⟩
 unfold sp_i_within sp_i_ValidPlay sp_i_made sp_i_newSquares sp_i_ValidBag sp_i_without sp_i_scorePlay
 generalize hP:std=p,hB0:playOkI=B0,hB1:inR=B1,hB2:okI=B2,hB3:madeB=B3,hB4:nsI=B4,hB5:npI=B5,hB6:bagB=B6,hB7:withoutS=B7,hB8:withoutB=B8,hB9:scoreI=B9
 cbv
 repeat' first
  | (refine fun (_:Unit)=>?_;cbv)
  | (refine aI2 (fun h=>?_) (fun h=>?_)<;>cbv)
  | (refine aI2 ?_ ?_)
  | (refine Or.inl (fun (_:Unit)=>?_);cbv)
 all_goals subst hP hB0 hB1 hB2 hB3 hB4 hB5 hB6 hB7 hB8 hB9
 all_goals try exact fin
 all_goals (have h0:=in_bd hp.ply;have hr:=hp.rk2)
 all_goals try (have hl1:=in_bd (show inR g.last.player 0 1=true by assumption);have hrk:=rk_valid hp.rk0 hp.rk1 (show inR g.last.player 0 1=true by assumption);have hrl:=rack_len hrk)
 all_goals try (have hvp:VP g.bef g.last.play:=VP.ok ‹_›;have hnl:=ns_len (b:=g.bef) (q:=g.last.play);have hn:=newTo_length g.bef g.last.play g.last.play.word.length;have hn:(newL g.bef g.last.play).length ≤g.last.play.word.length:=hn;have hw:=hvp.hi)
 all_goals try (have hbg:=bag_len (show bagB g.last.drawn=true by assumption))
 all_goals first
  | exact hp.bf
  | exact hp.wd
  | exact hvp
  | exact⟨hp.ts,hvp⟩
  | exact rack_stp hrk
  | exact bag_stp (show bagB g.last.drawn=true by assumption)
  | exact ltM_of hp.dr
  | exact⟨hl1.1,by show g.last.player<(g.racks.length:Int);omega⟩
  | (rw [pfE];simp only [*,Bool.not_false,Bool.not_true,Bool.true_and,Bool.false_and,Bool.and_false];done)
  | exact in64 (by show _≤1-g.player∧1-g.player≤_;omega)
  | exact in64 (by show _≤((g.rk g.last.player).length : Int)-(g.last.drawn.length:Int)∧((g.rk g.last.player).length : Int)-(g.last.drawn.length:Int)≤_;omega)
  | exact in64 (by show _≤((g.rk g.last.player).length : Int)-(g.last.drawn.length:Int)+((nsI g.bef g.last.play).length : Int)∧((g.rk g.last.player).length : Int)-(g.last.drawn.length:Int)+((nsI g.bef g.last.play).length : Int)≤_;omega)
  | skip
end Ax
namespace Ax
set_option maxRecDepth 100000
set_option maxHeartbeats 2000000
def sp_i_Game_lastFits (p:Pr):FSpec:=fsp (a1 (aA aGm)) (fun g=>PfQ g) (fun g=>.b (lastOkI g))
theorem ok_i_Game_lastFits:FOk Tryz.prog 86 (sp_i_Game_lastFits std):=by
 refine FOk.go (c:=cx std [(83,sp_i_within std),(183,sp_i_Game_playFits std)] [] 0) (cx_ok (.cons ok_i_within (.cons ok_i_Game_playFits .nil)) .nil) mixed Tryz.func86 rfl rfl rfl (by kernel_rfl) ?_
 rintro g hp
 refine⟨rfl,?_⟩
 unfold sp_i_within sp_i_Game_playFits
 generalize hP:std=p,hB0:lastOkI=B0,hB1:inR=B1,hB2:playOkI=B2
 cbv
 repeat' first
  | (refine fun (_:Unit)=>?_;cbv)
  | (refine aI2 (fun h=>?_) (fun h=>?_)<;>cbv)
  | (refine aI2 ?_ ?_)
  | (refine Or.inl (fun (_:Unit)=>?_);cbv)
 all_goals subst hP hB0 hB1 hB2
 all_goals try exact fin
 ·have k0:g.last.kind=0:=eqI_t ‹_›
  unfold lastOkI
  rw [if_pos k0];rfl
 ·have k0 : ¬g.last.kind=0:=eqI_f ‹_›
  have k2:g.last.kind=2:=eqI_t ‹_›
  unfold lastOkI
  rw [if_neg k0,if_pos (Or.inl k2),show inR g.last.player 0 1=true by assumption];rfl
 ·have k0 : ¬g.last.kind=0:=eqI_f ‹_›
  have k2:g.last.kind=2:=eqI_t ‹_›
  unfold lastOkI
  rw [if_neg k0,if_pos (Or.inl k2),show inR g.last.player 0 1=false by assumption];rfl
 ·have k0 : ¬g.last.kind=0:=eqI_f ‹_›
  have k2:g.last.kind=3:=eqI_t ‹_›
  unfold lastOkI
  rw [if_neg k0,if_pos (Or.inr k2),show inR g.last.player 0 1=true by assumption];rfl
 ·have k0 : ¬g.last.kind=0:=eqI_f ‹_›
  have k2:g.last.kind=3:=eqI_t ‹_›
  unfold lastOkI
  rw [if_neg k0,if_pos (Or.inr k2),show inR g.last.player 0 1=false by assumption];rfl
 all_goals have k0 : ¬g.last.kind=0:=eqI_f ‹_›
 all_goals have k2 : ¬g.last.kind=2:=eqI_f ‹_›
 all_goals have k3 : ¬g.last.kind=3:=eqI_f ‹_›
 all_goals unfold lastOkI
 all_goals rw [if_neg k0,if_neg (by rintro (h | h);exact k2 h;exact k3 h)]
 ·rw [if_pos (eqI_t ‹_›)]
 ·rw [if_neg (eqI_f ‹_›)]
theorem gameI (g:Gm):gameB g=(shapeB g&&(twoB g&&((sideB g 0&&sideB g 1)&&(tilesF g&&(lastOkI g&&(g.over||decide (g.zeros<6))))))):=by
 unfold gameB
 cases h1:shapeB g
 ·rfl
 cases h2:twoB g
 ·rfl
 cases h3:sideB g 0
 ·rfl
 cases h4:sideB g 1
 ·rfl
 unfold shapeB at h1
 unfold twoB at h2
 unfold sideB at h3 h4
 simp only [Bool.and_eq_true] at h1 h2 h3 h4
 have e1:tilesF g=(gameTiles g==allT g.ts):=by
  unfold tilesF
  rw [tiles_same h1.2.1 h1.2.2.2.2 h3.1 h4.1]
 rw [e1,lastOk_same h3.1 h4.1 h2.2.2.2.1]
theorem g_shape {g:Gm} (h:shapeB g=false):gameB g=false:=by rw [gameI,h];rfl
theorem g_two {g:Gm} (h:twoB g=false):gameB g=false:=by rw [gameI,h];simp
theorem g_side {g:Gm} {k:Int} (h0:0≤k) (h1:k<2) (h:sideB g k.toNat=false):gameB g=false:=by
 have : k=0∨k=1:=by omega
 rcases this with rfl | rfl
 ·have h:sideB g 0=false:=h
  rw [gameI,h];simp
 ·have h:sideB g 1=false:=h
  rw [gameI,h];simp
theorem g_end {g:Gm} (h1:shapeB g=true) (h2:twoB g=true) (h3:sideB g 0=true) (h4:sideB g 1=true):gameB g=(tilesF g&&(lastOkI g&&(g.over||decide (g.zeros<6)))):=by
 rw [gameI,h1,h2,h3,h4];rfl
structure GmQ (g:Gm):Prop where
 su:SuQ (gSu g)
 bd:BdP g.bd
 bag:g.bag.length≤274877906944
 rks : ∀k:Int,(g.racks.getD k.toNat []).length ≤274877906944
 wd:(g.last.play.word.length:Int)≤1073741824
 dr:g.last.drawn.length≤274877906944
 bf:BdP g.bef
theorem tfp_of {g:Gm} (h1:shapeB g=true) (h2:twoB g=true) (h3:sideB g 0=true) (h4:sideB g 1=true):TfP g:=by
 unfold shapeB setupB at h1
 unfold twoB at h2
 unfold sideB at h3 h4
 simp only [Bool.and_eq_true,decide_eq_true_eq] at h1 h2 h3 h4
 obtain⟨a1,a2,a3⟩:=tsB_all h1.1.1
 exact⟨⟨a1,a2,a3⟩,h1.2.1,h1.2.2.2.2,h2.1,h3.1,h4.1⟩
theorem pfq_of {g:Gm} (hp:GmQ g) (h1:shapeB g=true) (h2:twoB g=true) (h3:sideB g 0=true) (h4:sideB g 1=true):PfQ g:=by
 unfold shapeB setupB at h1
 unfold twoB at h2
 unfold sideB at h3 h4
 simp only [Bool.and_eq_true,decide_eq_true_eq] at h1 h2 h3 h4
 exact⟨tsB_ok h1.1.1,h2.1,h2.2.2.2.1,h3.1,h4.1,hp.bf,hp.wd,hp.dr⟩
def sp_i_ValidGame (p:Pr):FSpec:=fsp (a1 (aA aGm)) (fun g=>GmQ g) (fun g=>.b (gameB g))
theorem ok_i_ValidGame:FOk Tryz.prog 16 (sp_i_ValidGame std):=by
 refine FOk.go (c:=cx std [(14,sp_i_ValidSetup std),(81,sp_i_ValidBoard std),(68,sp_i_ValidBag std),(83,sp_i_within std),(84,sp_i_ValidRack std),(85,sp_i_Game_tilesFit std),(86,sp_i_Game_lastFits std)] [] 0) (cx_ok (.cons ok_i_ValidSetup (.cons ok_i_ValidBoard (.cons ok_i_ValidBag (.cons ok_i_within (.cons ok_i_ValidRack (.cons ok_i_Game_tilesFit (.cons ok_i_Game_lastFits .nil))))))) .nil) mixed Tryz.func16 rfl rfl rfl (by kernel_rfl) ?_
 rintro g hp
 refine⟨rfl,?_⟩
 unfold sp_i_ValidSetup sp_i_ValidBoard sp_i_ValidBag sp_i_within sp_i_ValidRack sp_i_Game_tilesFit sp_i_Game_lastFits
 obtain⟨H,hH⟩ : ∃H:Hd (Int),H=⟨fun k=>0≤k∧k≤2∧(0<k→sideB g 0=true)∧(1<k→sideB g 1=true),fun k=>(2-k).toNat,(· < ·)⟩:=⟨_,rfl⟩
 have hl : ∀m n,H.lt m n→m<n:=by subst hH;exact fun _ _ h=>h
 generalize hP:std=p,hB0:gameB=B0,hB1:suB=B1,hB2:bdB=B2,hB3:bagB=B3,hB4:inR=B4,hB5:rackB=B5,hB6:tilesF=B6,hB7:lastOkI=B7
 cbv
 repeat' first
  | (refine fun (_:Unit)=>?_;cbv)
  | (refine Or.inr ⟨66,[],[.s 65 (.i .i64)],[],[],H,rfl,hl,?_,fun (k:Int) hk=>?_⟩<;>cbv)
  | (refine aI2 (fun h=>?_) (fun h=>?_)<;>cbv)
  | (refine aI2 ?_ ?_)
 all_goals subst hP hB0 hB1 hB2 hB3 hB4 hB5 hB6 hB7 hH
 all_goals clear hl
 all_goals try dsimp only at hk
 all_goals try dsimp only
 all_goals try exact fin
 all_goals try (have hs:shapeB g=true:=by rw [shapeE];simp only [*,Bool.not_false,Bool.true_and,Bool.and_true])
 all_goals try (have hr2:g.racks.length=2:=by have:=(len2 g.racks).symm.trans (show std.eqI (std.len g.racks) 2=true by assumption);simpa using this)
 all_goals try (obtain⟨q0,q1,q2,q3⟩:=hk)
 all_goals try (have hlt:k<2:=by have h7:k<(g.racks.length:Int):=lt_of ‹_›;omega)
 all_goals try (have hge:2≤k:=by have h7:(g.racks.length:Int)≤k:=ge_of ‹_›;omega)
 all_goals try (have hsd0:=q2 (by omega);have hsd1:=q3 (by omega))
 all_goals try (have htw:twoB g=true:=by rw [twoE];simp only [*,Bool.not_false,Bool.true_and,Bool.and_true])
 all_goals first
  | exact hp.su
  | exact ltM_of hp.bag
  | exact ltM_of (hp.rks k)
  | (refine g_shape ?_;rw [shapeE];simp only [*,Bool.not_false,Bool.true_and,Bool.false_and];done)
  | (refine g_two ?_;rw [twoE];simp only [*,Bool.not_false,Bool.true_and,Bool.false_and,Bool.and_false];done)
  | exact g_side q0 hlt (side_n1 ‹_›)
  | exact g_side q0 hlt (side_n2 q0 ‹_›)
  | exact g_side q0 hlt (side_n3 q0 ‹_›)
  | exact side_suc q0 hlt q2 q3 ‹_› ‹_› ‹_›
  | exact tfp_of hs htw hsd0 hsd1
  | exact pfq_of hp hs htw hsd0 hsd1
  | (rw [g_end hs htw hsd0 hsd1,show g.over=false by assumption,z_full ‹_›];simp;done)
  | (rw [g_end hs htw hsd0 hsd1];show lastOkI g=_;rw [show tilesF g=true by assumption,show g.over=true by assumption];simp;done)
  | (rw [g_end hs htw hsd0 hsd1,show tilesF g=true by assumption,z_less ‹_› ‹_›];simp;done)
  | (rw [g_end hs htw hsd0 hsd1,show tilesF g=false by assumption];rfl)
  | skip
end Ax
namespace Ax
set_option maxRecDepth 100000
set_option maxHeartbeats 2000000
def tdI (a b:List UInt8):Int:=min (7-(b.length:Int)) (a.length:Int)
def frR (a b:List UInt8):List UInt8:=if bagB a&&rackB b then pileL (countsL (b++a.take (tdI a b).toNat)) else []
def frB (a b:List UInt8):List UInt8:=if bagB a&&rackB b then a.drop (tdI a b).toNat else []
structure TcP (t:TS):Prop where
 v:(t.values.length:Int)≤1073741824
 c:(t.counts.length:Int)≤1073741824
def sp_i_copyTiles (p:Pr):FSpec:=fsp (a1 (aA aTs)) (fun t=>TcP t) (fun t=>.agg (tsK t (.osl 0) (.osl 1))) (fun t=>[(0,.own [.i .i64] t.values 2),(1,.own [.i .i64] t.counts 2)])
theorem ok_i_copyTiles:FOk Tryz.prog 169 (sp_i_copyTiles std):=by
 refine FOk.go (c:=cx std [(209,sp_cloneN std)] [] 0) (cx_ok (.cons ok_cloneN .nil) .nil) mixed Tryz.func169 rfl rfl rfl (by kernel_rfl) ?_
 rintro t hp
 refine⟨rfl,?_⟩
 unfold sp_cloneN
 generalize hP:std=p
 cbv
 repeat' first
  | (refine fun (_:Unit)=>?_;cbv)
  | (refine aI2 (fun h=>?_) (fun h=>?_)<;>cbv)
  | (refine aI2 ?_ ?_)
  | (refine Or.inl (fun (_:Unit)=>?_);cbv)
 all_goals subst hP
 all_goals try exact fin
 ·exact hp.v
 ·exact hp.c
def sp_i_copyLexicon (p:Pr):FSpec:=fsp (a1 (aA aLex)) (fun ws=>p.leP (p.len ws) 1073741824) (fun ws=>.agg [.osl 0]) (fun ws=>[(0,.own [.s] ws 9)])
theorem ok_i_copyLexicon:FOk Tryz.prog 170 (sp_i_copyLexicon std):=by
 refine FOk.go (c:=cx std [(208,sp_cloneW std)] [] 0) (cx_ok (.cons ok_cloneW .nil) .nil) mixed Tryz.func170 rfl rfl rfl (by kernel_rfl) ?_
 rintro ws hp
 refine⟨rfl,?_⟩
 unfold sp_cloneW
 generalize hP:std=p
 cbv
 repeat' first
  | (refine fun (_:Unit)=>?_;cbv)
  | (refine aI2 (fun h=>?_) (fun h=>?_)<;>cbv)
  | (refine aI2 ?_ ?_)
  | (refine Or.inl (fun (_:Unit)=>?_);cbv)
 all_goals subst hP
 all_goals try exact fin
structure SuC (u:Su):Prop where
 ts:TcP u.ts
 l:(u.lex.length:Int)≤1073741824
def sp_i_copySetup (p:Pr):FSpec:=fsp (a1 (aA aSu)) (fun u=>SuC u) (fun u=>.agg (suK u (.osl 0) (.osl 1) (.osl 2))) (fun u=>[(0,.own [.i .i64] u.ts.values 2),(1,.own [.i .i64] u.ts.counts 2),(2,.own [.s] u.lex 9)])
theorem ok_i_copySetup:FOk Tryz.prog 71 (sp_i_copySetup std):=by
 refine FOk.go (c:=cx std [(169,sp_i_copyTiles std),(170,sp_i_copyLexicon std)] [] 0) (cx_ok (.cons ok_i_copyTiles (.cons ok_i_copyLexicon .nil)) .nil) mixed Tryz.func71 rfl rfl rfl (by kernel_rfl) ?_
 rintro u hp
 refine⟨rfl,?_⟩
 unfold sp_i_copyTiles sp_i_copyLexicon
 generalize hP:std=p
 cbv
 repeat' first
  | (refine fun (_:Unit)=>?_;cbv)
  | (refine aI2 (fun h=>?_) (fun h=>?_)<;>cbv)
  | (refine aI2 ?_ ?_)
  | (refine Or.inl (fun (_:Unit)=>?_);cbv)
 all_goals subst hP
 all_goals try exact fin
 ·exact hp.l
end Ax
namespace Ax
set_option maxRecDepth 100000
set_option maxHeartbeats 2000000
def sp_s_l18LastOk (p:Pr):FSpec:=fsp (a1 (aP aGm)) (fun g=>PkP g) (fun g=>.b (lastOk g))
theorem ok_s_l18LastOk:FOk Tryz.prog 186 (sp_s_l18LastOk std):=by
 refine FOk.go (c:=cx std [(250,sp_s_l18PlayOk std),(89,sp_s_l00In std)] [] 0) (cx_ok (.cons ok_s_l18PlayOk (.cons ok_s_l00In .nil)) .nil) mixed Tryz.func186 rfl rfl rfl (by kernel_rfl) ?_
 rintro g hp
 refine⟨rfl,?_⟩
 unfold sp_s_l18PlayOk sp_s_l00In
 generalize hP:std=p,hB0:lastOk=B0,hB1:playOk=B1,hB2:inR=B2
 cbv
 repeat' first
  | (refine fun (_:Unit)=>?_;cbv)
  | (refine aI2 (fun h=>?_) (fun h=>?_)<;>cbv)
  | (refine aI2 ?_ ?_)
  | (refine Or.inl (fun (_:Unit)=>?_);cbv)
 all_goals subst hP hB0 hB1 hB2
 all_goals try exact fin
 all_goals try (have hb:eqLa g.last (idleL g.last.kind g.last.player)=true:=‹_›)
 all_goals try (have hn:eqLa g.last (idleL g.last.kind g.last.player)=false:=‹_›)
 ·have k0:g.last.kind=0:=eqI_t ‹_›
  unfold lastOk
  rw [k0] at hb
  rw [if_pos k0,hb];rfl
 ·have k0:g.last.kind=0:=eqI_t ‹_›
  unfold lastOk
  rw [k0] at hn
  rw [if_pos k0,hn];rfl
 ·have k0 : ¬g.last.kind=0:=eqI_f ‹_›
  have k2:g.last.kind=2:=eqI_t ‹_›
  unfold lastOk
  rw [if_neg k0,if_pos (Or.inl k2),hb];rfl
 ·have k0 : ¬g.last.kind=0:=eqI_f ‹_›
  have k2:g.last.kind=2:=eqI_t ‹_›
  unfold lastOk
  rw [if_neg k0,if_pos (Or.inl k2),hn];rfl
 ·have k0 : ¬g.last.kind=0:=eqI_f ‹_›
  have k2:g.last.kind=3:=eqI_t ‹_›
  unfold lastOk
  rw [if_neg k0,if_pos (Or.inr k2),hb];rfl
 ·have k0 : ¬g.last.kind=0:=eqI_f ‹_›
  have k2:g.last.kind=3:=eqI_t ‹_›
  unfold lastOk
  rw [if_neg k0,if_pos (Or.inr k2),hn];rfl
 all_goals have k0 : ¬g.last.kind=0:=eqI_f ‹_›
 all_goals have k2 : ¬g.last.kind=2:=eqI_f ‹_›
 all_goals have k3 : ¬g.last.kind=3:=eqI_f ‹_›
 all_goals unfold lastOk
 all_goals rw [if_neg k0,if_neg (by rintro (h | h);exact k2 h;exact k3 h)]
 ·rw [if_pos (eqI_t ‹_›)]
 ·rw [if_neg (eqI_f ‹_›)]
structure GmL (g:Gm):Prop where
 su:SuL (gSu g)
 bd:BdP g.bd
 bag:g.bag.length≤274877906944
 rk : ∀k:Int,(g.rk k).length ≤274877906944
 bf:BdP g.bef
 wd:g.last.play.word.length≤274877906944
 dr:g.last.drawn.length≤274877906944
theorem s_shape {g:Gm} (h:shapeB g=false):gameB g=false:=by unfold gameB;rw [h];rfl
theorem s_two {g:Gm} (h:twoB g=false):gameB g=false:=by unfold gameB;rw [h];simp
theorem s_side {g:Gm} {k:Int} (h0:0≤k) (h1:k<2) (h:sideB g k.toNat=false):gameB g=false:=by
 have : k=0∨k=1:=by omega
 rcases this with rfl | rfl
 ·have h:sideB g 0=false:=h
  unfold gameB;rw [h];simp
 ·have h:sideB g 1=false:=h
  unfold gameB;rw [h];simp
theorem s_end {g:Gm} (h1:shapeB g=true) (h2:twoB g=true) (h3:sideB g 0=true) (h4:sideB g 1=true):gameB g=(gameTiles g==allT g.ts&&(lastOk g&&(g.over||decide (g.zeros<6)))):=by
 unfold gameB
 rw [h1,h2,h3,h4];rfl
structure GmS (g:Gm):Prop where
 fit:g.bd.Fit
 ts:tsB g.ts=true
 rk : ∀k:Int,(g.rk k).length ≤7
 r2:g.racks.length=2
 ply:g.player=0∨g.player=1
 bag:g.bag.length≤120
theorem gm_s {g:Gm} (h1:shapeB g=true) (h2:twoB g=true) (h3:sideB g 0=true) (h4:sideB g 1=true):GmS g:=by
 unfold shapeB setupB at h1
 unfold twoB at h2
 unfold sideB at h3 h4
 simp only [Bool.and_eq_true,decide_eq_true_eq] at h1 h2 h3 h4
 have hp:=in_bd h2.2.2.2.1
 refine⟨bdB.fit h1.2.1,h1.1.1,fun k=>?_,h2.1,by omega,bag_len h1.2.2.2.2⟩
 unfold Gm.rk
 rcases (show k.toNat=0∨k.toNat=1∨2≤k.toNat by omega) with h | h | h
 ·rw [h];exact rack_len h3.1
 ·rw [h];exact rack_len h4.1
 ·rw [List.getD_eq_getElem?_getD,List.getElem?_eq_none (by omega)];decide
theorem pkp_of {g:Gm} (hp:GmL g) (h:GmS g):PkP g:=⟨tsB_ok h.ts,h.r2,h.ply,h.rk,hp.bf,hp.wd,hp.dr⟩
def sp_s_l18Ok (p:Pr):FSpec:=fsp (a1 (aP aGm)) (fun g=>GmL g) (fun g=>.b (gameB g))
theorem ok_s_l18Ok:FOk Tryz.prog 88 (sp_s_l18Ok std):=by
 refine FOk.go (c:=cx std [(72,sp_s_l18Setup std),(159,sp_s_l11Ok std),(73,sp_s_l17Ok std),(89,sp_s_l00In std),(185,sp_s_l03Rack std),(173,sp_s_l11Letters std),(127,sp_s_l03Tiles std),(74,sp_s_l03Sort std),(65,sp_s_l02All std),(186,sp_s_l18LastOk std)] [] 0) (cx_ok (.cons ok_s_l18Setup (.cons ok_s_l11Ok (.cons ok_s_l17Ok (.cons ok_s_l00In (.cons ok_s_l03Rack (.cons ok_s_l11Letters (.cons ok_s_l03Tiles (.cons ok_s_l03Sort (.cons ok_s_l02All (.cons ok_s_l18LastOk .nil)))))))))) .nil) mixed Tryz.func88 rfl rfl rfl (by kernel_rfl) ?_
 rintro g hp
 refine⟨rfl,?_⟩
 unfold sp_s_l18Setup sp_s_l11Ok sp_s_l17Ok sp_s_l00In sp_s_l03Rack sp_s_l11Letters sp_s_l03Tiles sp_s_l03Sort sp_s_l02All sp_s_l18LastOk
 obtain⟨H,hH⟩ : ∃H:Hd (Int),H=⟨fun k=>0≤k∧k≤2∧(0<k→sideB g 0=true)∧(1<k→sideB g 1=true),fun k=>(2-k).toNat,(· < ·)⟩:=⟨_,rfl⟩
 have hl : ∀m n,H.lt m n→m<n:=by subst hH;exact fun _ _ h=>h
 generalize hP:std=p,hB0:gameB=B0,hB1:suB=B1,hB2:bdB=B2,hB3:bagB=B3,hB4:rackB=B4,hB5:inR=B5,hB6:lettersS=B6,hB7:tilesS=B7,hB8:isort=B8,hB9:allT=B9,hB10:lastOk=B10
 cbv
 repeat' first
  | (refine fun (_:Unit)=>?_;cbv)
  | (refine Or.inr ⟨90,[],[.s 3 (.i .i64)],[],[],H,rfl,hl,?_,fun (k:Int) hk=>?_⟩<;>cbv)
  | (refine aI2 (fun h=>?_) (fun h=>?_)<;>cbv)
  | (refine aI2 ?_ ?_)
 all_goals subst hP hB0 hB1 hB2 hB3 hB4 hB5 hB6 hB7 hB8 hB9 hB10 hH
 all_goals clear hl
 all_goals try dsimp only at hk
 all_goals try dsimp only
 all_goals try exact fin
 all_goals try (have hs:shapeB g=true:=by rw [shapeE];simp only [*,Bool.not_false,Bool.true_and,Bool.and_true])
 all_goals try (have htw:twoB g=true:=by rw [twoE];simp only [*,Bool.not_false,Bool.true_and,Bool.and_true])
 all_goals try (obtain⟨q0,q1,q2,q3⟩:=hk)
 all_goals try (have hlt:k<2:=lt_of ‹_›)
 all_goals try (have hge:2≤k:=ge_of ‹_›)
 all_goals try (have hsd0:=q2 (by omega);have hsd1:=q3 (by omega))
 all_goals try (have hS:=gm_s hs htw hsd0 hsd1;have hl:=lettersS_len g.bd hS.fit;have htl:=tilesS_len (lettersS g.bd);have hr0:=hS.rk 0;have hr1:=hS.rk 1;have hbg:=hS.bag)
 all_goals try (have hlo:lastOk g=true:=‹_›)
 all_goals try (have hlf:lastOk g=false:=‹_›)
 all_goals first
  | exact hp.su
  | exact ltM_of hp.bag
  | exact ltM_of (hp.rk k)
  | exact⟨Int.le_refl 0,by decide,fun h=>absurd h (by decide),fun h=>absurd h (by decide)⟩
  | (refine s_shape ?_;rw [shapeE];simp only [*,Bool.not_false,Bool.true_and,Bool.false_and];done)
  | (refine s_two ?_;rw [twoE];simp only [*,Bool.not_false,Bool.true_and,Bool.false_and,Bool.and_false];done)
  | exact s_side q0 hlt (side_n1 ‹_›)
  | exact s_side q0 hlt (side_n2 q0 ‹_›)
  | exact s_side q0 hlt (side_n3 q0 ‹_›)
  | exact side_suc q0 hlt q2 q3 ‹_› ‹_› ‹_›
  | exact (tsB_all hS.ts).1
  | exact pkp_of hp hS
  | exact ltM_of (n:=(lettersS g.bd).length) (by omega)
  | exact in64 (by show _≤((tilesS (lettersS g.bd)).length : Int)+((g.rk 0).length : Int)∧((tilesS (lettersS g.bd)).length : Int)+((g.rk 0).length : Int)≤_;omega)
  | exact in64 (by show _≤((tilesS (lettersS g.bd)++g.rk 0).length : Int)+((g.rk 1).length : Int)∧((tilesS (lettersS g.bd)++g.rk 0).length : Int)+((g.rk 1).length : Int)≤_;rw [List.length_append];omega)
  | exact in64 (by show _≤(((tilesS (lettersS g.bd)++g.rk 0)++g.rk 1).length : Int)+(g.bag.length:Int)∧(((tilesS (lettersS g.bd)++g.rk 0)++g.rk 1).length : Int)+(g.bag.length:Int)≤_;rw [List.length_append,List.length_append];omega)
  | exact ltM_of (n:=(((tilesS (lettersS g.bd)++g.rk 0)++g.rk 1)++g.bag).length) (by rw [List.length_append,List.length_append,List.length_append];omega)
  | (rw [s_end hs htw hsd0 hsd1,show (gameTiles g==allT g.ts)=false by assumption];rfl)
  | (rw [s_end hs htw hsd0 hsd1,show (gameTiles g==allT g.ts)=true by assumption,hlf];rfl)
  | (rw [s_end hs htw hsd0 hsd1,show (gameTiles g==allT g.ts)=true by assumption,hlo,show g.over=true by assumption];rfl)
  | (rw [s_end hs htw hsd0 hsd1,show (gameTiles g==allT g.ts)=true by assumption,hlo,show g.over=false by assumption];rfl)
  | skip
end Ax
namespace Ax
set_option maxRecDepth 100000
set_option maxHeartbeats 2000000
structure SaF (g:Gm):Prop where
 s:g.scores.length=2
 k:g.clocks.length=2
 ply:0≤g.player∧g.player≤1
 clk : -36000≤g.clk g.player∧g.clk g.player≤36000
theorem sa_facts {g:Gm} (h:gameB g=true):SaF g:=by
 unfold gameB twoB sideB at h
 simp only [Bool.and_eq_true,decide_eq_true_eq] at h
 have hp:=in_bd h.2.1.2.2.2.1
 have k0:=in_bd h.2.2.1.1.2.2
 have k1:=in_bd h.2.2.1.2.2.2
 refine⟨h.2.1.2.1,h.2.1.2.2.1,hp,?_⟩
 unfold Gm.clk
 rcases (show g.player.toNat=0∨g.player.toNat=1 by omega) with e | e<;>rw [e]
 ·exact k0
 ·exact k1
theorem sa_over {g:Gm} {n:Int} (h:gameB g=true) (ho:g.over=true):actC g n=10:=by
 unfold actC;rw [if_pos h,if_pos ho]
theorem sa_2a {g:Gm} {n:Int} (h:gameB g=true) (ho:g.over=false) (hn:inR n 0 36000=false):actC g n=2:=by
 unfold actC;rw [if_pos h,if_neg (by rw [ho];simp),hn,if_neg (by simp)]
theorem sa_2b {g:Gm} {n:Int} (h:gameB g=true) (ho:g.over=false) (hn:std.ltI (g.clk g.player-n) (-36000)=true):actC g n=2:=by
 have h1:=lt_of hn
 unfold actC;rw [if_pos h,if_neg (by rw [ho];simp),decide_eq_false (by omega),Bool.and_false,if_neg (by simp)]
theorem sa_go {g:Gm} {n:Int} (h:gameB g=true) (ho:g.over=false) (hi:inR n 0 36000=true) (hn:std.ltI (g.clk g.player-n) (-36000)=false):actC g n=if inR (g.sc 0) (-50000) 50000&&inR (g.sc 1) (-50000) 50000 then 0 else 5:=by
 have h1:=ge_of hn
 unfold actC;rw [if_pos h,if_neg (by rw [ho];simp),hi,decide_eq_true (by omega)];rfl
def sp_s_l18Begin (p:Pr):FSpec:=fsp (ac (aP aGm) (a1 aI)) (fun (g,n)=>GmL g) (fun (g,n)=>.i .i64 (actC g n))
theorem ok_s_l18Begin:FOk Tryz.prog 105 (sp_s_l18Begin std):=by
 refine FOk.go (c:=cx std [(88,sp_s_l18Ok std),(89,sp_s_l00In std),(124,sp_s_l18Points std)] [] 0) (cx_ok (.cons ok_s_l18Ok (.cons ok_s_l00In (.cons ok_s_l18Points .nil))) .nil) mixed Tryz.func105 rfl rfl rfl (by kernel_rfl) ?_
 rintro ⟨g,n⟩ hp
 dsimp only at hp
 refine⟨rfl,?_⟩
 unfold sp_s_l18Ok sp_s_l00In sp_s_l18Points
 generalize hP:std=p,hB0:actC=B0,hB1:gameB=B1,hB2:inR=B2
 cbv
 repeat' first
  | (refine fun (_:Unit)=>?_;cbv)
  | (refine aI2 (fun h=>?_) (fun h=>?_)<;>cbv)
  | (refine aI2 ?_ ?_)
  | (refine Or.inl (fun (_:Unit)=>?_);cbv)
 all_goals subst hP hB0 hB1 hB2
 all_goals try exact fin
 all_goals try (have hf:=sa_facts (show gameB g=true by assumption);have hpl:=hf.ply;have hck:=hf.clk;have hkl:=hf.k;have hsl:=hf.s)
 all_goals try (have hn:=in_bd (show inR n 0 36000=true by assumption))
 all_goals first
  | exact⟨hpl.1,by show g.player<(g.clocks.length:Int);omega⟩
  | exact⟨by decide,by show (0:Int)<(g.scores.length:Int);omega⟩
  | exact⟨by decide,by show (1:Int)<(g.scores.length:Int);omega⟩
  | exact in64 (by show _≤g.clk g.player-n∧g.clk g.player-n≤_;omega)
  | (unfold actC;rw [if_neg (by rw [show gameB g=false by assumption];simp)];done)
  | (rw [sa_over ‹_› ‹_›];done)
  | (rw [sa_2b ‹_› ‹_› ‹_›];done)
  | (rw [sa_2a ‹_› ‹_› ‹_›];done)
  | (rw [sa_go ‹_› ‹_› ‹_› ‹_›,show inR (g.sc 0) (-50000) 50000=true by assumption,show inR (g.sc 1) (-50000) 50000=true by assumption];rfl)
  | (rw [sa_go ‹_› ‹_› ‹_› ‹_›,show inR (g.sc 0) (-50000) 50000=false by assumption];rfl)
  | (rw [sa_go ‹_› ‹_› ‹_› ‹_›,show inR (g.sc 1) (-50000) 50000=false by assumption,Bool.and_false];rfl)
  | exact hp
  | skip
end Ax
namespace Ax
section
variable {P:Program} {g:FuncId} {α β:Type}
end
end Ax
namespace Ax
set_option maxRecDepth 100000
set_option maxHeartbeats 2000000
structure Src where
 code:List Int
 pos:Int
 seed:Int
def srK (σ:Src):List PV:=[.rsl [.i .u8] σ.code,.i .i64 σ.pos,.i .u64 σ.seed]
def srH (σ:Src):AH:=[(0,.cells (srK σ) 159)]
def srOf:AH→Option Src
 | [(0,.cells [.rsl [.i .u8] c,.i .i64 a,.i .u64 s] 159)]=>some ⟨c,a,s⟩
 | _=>none
theorem srOf_ok {H:AH} {σ:Src} (h:srOf H=some σ):H=srH σ:=by
 unfold srOf at h
 split at h
 ·cases h;rfl
 ·cases h
def mS {β:Type} (B:Args β):MArgs (Src×β):=⟨fun H l=>match l with
 | .ptr 0 0::r=>both' (srOf H) (B.rd r)
 | _=>none,fun a=>srH a.1,fun a=>.ptr 0 0::B.enc a.2,fun H l a h=>by
   split at h
   ·obtain⟨h1,h2⟩:=both'_ok h
    exact⟨srOf_ok h1,by rw [B.ok _ _ h2]⟩
   ·cases h⟩
structure SrOk (n:Int) (σ:Src):Prop where
 lo:0≤σ.pos
 hi:σ.pos≤n
 len:(σ.code.length:Int)≤1048576
 b : ∀x∈σ.code,0≤x∧x≤255
def nrB (σ:Src):Int:=if σ.pos<σ.code.length then σ.code.getD σ.pos.toNat 0 else 0
def nrS (σ:Src):Src:=⟨σ.code,σ.pos+1,stdU.add (stdU.add (stdU.mul σ.seed 6364136223846793005) (nrB σ)) 1442695040888963407⟩
def nrV (σ:Src):Int:=if σ.pos<σ.code.length then σ.code.getD σ.pos.toNat 0 else stdU.msk (stdU.shr (nrS σ).seed 40) 255
theorem code_b {n:Int} {σ:Src} (h:SrOk n σ) (k:Nat):0≤σ.code.getD k 0∧σ.code.getD k 0≤255:=by
 rw [List.getD_eq_getElem?_getD]
 cases hk:σ.code[k]? with
 | none=>exact⟨by decide,by decide⟩
 | some x=>exact h.b x (List.mem_of_getElem? hk)
theorem nr_bd {n:Int} {σ:Src} (h:SrOk n σ):0≤nrV σ∧nrV σ≤255:=by
 unfold nrV
 split
 ·exact code_b h _
 ·exact msk_bd (by decide) (by decide)
theorem nr_ok {n:Int} {σ:Src} (h:SrOk n σ):SrOk (n+1) (nrS σ):=⟨by have:=h.lo;show 0≤σ.pos+1;omega,by have:=h.hi;show σ.pos+1≤n+1;omega,h.len,h.b⟩
theorem SrOk.le {n m:Int} {σ:Src} (h:SrOk n σ) (hm:n≤m):SrOk m σ:=⟨h.lo,Int.le_trans h.hi hm,h.len,h.b⟩
def pkV (σ:Src) (n:Int):Int:=if n≤1 then 0 else if 200<n then (nrV σ*256+nrV (nrS σ)).tmod n else (nrV σ).tmod n
def pkS (σ:Src) (n:Int):Src:=if n≤1 then σ else if 200<n then nrS (nrS σ) else nrS σ
theorem pk_bd {m:Int} {σ:Src} (h:SrOk m σ) {n:Int} : 0≤pkV σ n∧(1≤n→pkV σ n<n)∧(n≤1→pkV σ n=0):=by
 have h1:=nr_bd h
 have h2:=nr_bd (nr_ok h)
 unfold pkV
 by_cases h3:n≤1
 ·rw [if_pos h3];exact⟨Int.le_refl 0,fun h=>by omega,fun _=>rfl⟩
 ·rw [if_neg h3]
  split
  ·rw [Int.tmod_eq_emod_of_nonneg (by omega)]
   exact⟨Int.emod_nonneg _ (by omega),fun _=>Int.emod_lt_of_pos _ (by omega),fun h=>absurd h h3⟩
  ·rw [Int.tmod_eq_emod_of_nonneg (by omega)]
   exact⟨Int.emod_nonneg _ (by omega),fun _=>Int.emod_lt_of_pos _ (by omega),fun h=>absurd h h3⟩
theorem pk_ok {m:Int} {σ:Src} (h:SrOk m σ) (n:Int):SrOk (m+2) (pkS σ n):=by
 unfold pkS
 split
 ·exact h.le (by omega)
 ·split
  ·exact (nr_ok (nr_ok h)).le (by omega)
  ·exact (nr_ok h).le (by omega)
theorem inu {x:Int} (h:0≤x∧x≤255):std.inK .u64 x:=⟨h.1,Int.le_trans h.2 (by decide)⟩
theorem in8 {x:Int} (h:0≤x∧x≤255):std.inK .i64 x:=in64 ⟨Int.le_trans (by decide) h.1,Int.le_trans h.2 (by decide)⟩
theorem nrB_t {σ:Src} (h:std.ltI σ.pos (std.len σ.code)=true):nrB σ=σ.code.getD σ.pos.toNat 0:=if_pos (lt_of h)
theorem nrB_f {σ:Src} (h:std.ltI σ.pos (std.len σ.code)=false):nrB σ=0:=if_neg (by have h1:(σ.code.length:Int)≤σ.pos:=ge_of h;omega)
theorem nrV_t {σ:Src} (h:std.ltI σ.pos (std.len σ.code)=true):nrV σ=σ.code.getD σ.pos.toNat 0:=if_pos (lt_of h)
theorem nrV_f {σ:Src} (h:std.ltI σ.pos (std.len σ.code)=false):nrV σ=stdU.msk (stdU.shr (nrS σ).seed 40) 255:=if_neg (by have h1:(σ.code.length:Int)≤σ.pos:=ge_of h;omega)
theorem pos_64 {σ:Src} (hp:SrOk 1000000000000 σ):std.inK .i64 (σ.pos+1):=in64 (by have:=hp.lo;have:=hp.hi;omega)
def sp_s_xl00Src_next (p:Pr):MSpec:=msp (mS a0) (fun (σ,_)=>SrOk 1000000000000 σ) (fun (σ,_)=>.i .i64 (nrV σ)) (fun (σ,_)=>srH (nrS σ))
theorem ok_s_xl00Src_next:MOk Tryz.prog 157 (sp_s_xl00Src_next std):=by
 refine MOk.go (c:=cxN std [] [] [] 1 (if true then some stdU else none) []) (cxN_ok .nil .nil .nil) mixed Tryz.func157 rfl rfl (by kernel_rfl) ?_
 rintro ⟨σ,_⟩ hp
 dsimp only at hp
 refine⟨rfl,?_⟩
 generalize hP:std=p,hB0:nrV=B0,hB1:nrS=B1,hB2:stdU=B2
 cbv
 repeat' first
  | (refine fun (_:Unit)=>?_;cbv)
  | (refine fun (y:Nd _) hy=>?_;cbv)
  | (refine aI2 (fun h=>?_) (fun h=>?_)<;>cbv)
  | (refine aI2 ?_ ?_)
  | (refine Or.inl (fun (_:Unit)=>?_);cbv)
 all_goals subst hP hB0 hB1 hB2
 all_goals try exact fin
 ·exact⟨hp.lo,lt_of h⟩
 ·exact in8 (code_b hp σ.pos.toNat)
 ·exact pos_64 hp
 ·exact inu (code_b hp σ.pos.toNat)
 ·show _=stdU.add (stdU.add (stdU.mul σ.seed 6364136223846793005) (nrB σ)) 1442695040888963407
  rw [nrB_t ‹_›];rfl
 ·rw [nrV_t ‹_›];rfl
 ·exact pos_64 hp
 ·exact inu ⟨by decide,by decide⟩
 ·exact in8 (msk_bd (b:=255) (by decide) (by decide))
 ·show _=stdU.add (stdU.add (stdU.mul σ.seed 6364136223846793005) (nrB σ)) 1442695040888963407
  rw [nrB_f ‹_›]
 ·rw [nrV_f ‹_›]
  show _=stdU.msk (stdU.shr (stdU.add (stdU.add (stdU.mul σ.seed 6364136223846793005) (nrB σ)) 1442695040888963407) 40) 255
  rw [nrB_f ‹_›]
theorem pk_a {σ:Src} {n:Int} (h:std.leI n 1=true):pkS σ n=σ∧pkV σ n=0:=by
 have h1:n≤1:=by simpa [std] using h
 exact⟨if_pos h1,if_pos h1⟩
theorem pk_b {σ:Src} {n:Int} (h:std.leI n 1=false) (k:std.ltI 200 n=true):pkS σ n=nrS (nrS σ)∧pkV σ n=(nrV σ*256+nrV (nrS σ)).tmod n:=by
 have h1 : ¬n≤1:=by simpa [std] using h
 have h2:200<n:=lt_of k
 exact⟨(if_neg h1).trans (if_pos h2),(if_neg h1).trans (if_pos h2)⟩
theorem pk_c {σ:Src} {n:Int} (h:std.leI n 1=false) (k:std.ltI 200 n=false):pkS σ n=nrS σ∧pkV σ n=(nrV σ).tmod n:=by
 have h1 : ¬n≤1:=by simpa [std] using h
 have h2 : ¬200<n:=Int.not_lt.2 (ge_of k)
 exact⟨(if_neg h1).trans (if_neg h2),(if_neg h1).trans (if_neg h2)⟩
theorem nr256 {m:Int} {σ:Src} (h:SrOk m σ):std.inK .i64 (nrV σ*256):=in64 (by have:=nr_bd h;omega)
theorem nr2 {m:Int} {σ:Src} (h:SrOk m σ):std.inK .i64 (nrV σ*256+nrV (nrS σ)):=in64 (by have:=nr_bd h;have:=nr_bd (nr_ok h);omega)
def sp_s_xl00Src_pick (p:Pr):MSpec:=msp (mS (a1 aI)) (fun (σ,n)=>SrOk 999999999000 σ) (fun (σ,n)=>.i .i64 (pkV σ n)) (fun (σ,n)=>srH (pkS σ n))
theorem ok_s_xl00Src_pick:MOk Tryz.prog 64 (sp_s_xl00Src_pick std):=by
 refine MOk.go (c:=cx std [] [(157,sp_s_xl00Src_next std)] 1) (cx_ok .nil (.cons ok_s_xl00Src_next .nil)) mixed Tryz.func64 rfl rfl (by kernel_rfl) ?_
 rintro ⟨σ,n⟩ hp
 dsimp only at hp
 refine⟨rfl,?_⟩
 unfold sp_s_xl00Src_next
 generalize hP:std=p,hB0:pkV=B0,hB1:pkS=B1,hB2:nrV=B2,hB3:nrS=B3
 cbv
 repeat' first
  | (refine fun (_:Unit)=>?_;cbv)
  | (refine aI2 (fun h=>?_) (fun h=>?_)<;>cbv)
  | (refine aI2 ?_ ?_)
  | (refine Or.inl (fun (_:Unit)=>?_);cbv)
 all_goals subst hP hB0 hB1 hB2 hB3
 all_goals try exact fin
 ·rw [(pk_a h).1]
 ·rw [(pk_a h).1]
 ·rw [(pk_a h).1]
 ·rw [(pk_a h).2]
 ·exact hp.le (by decide)
 ·exact nr256 hp
 ·exact (nr_ok hp).le (by decide)
 ·exact nr2 hp
 ·rw [(pk_b ‹_› ‹_›).1]
 ·rw [(pk_b ‹_› ‹_›).1]
 ·rw [(pk_b ‹_› ‹_›).1]
 ·rw [(pk_b ‹_› ‹_›).2];rfl
 ·rw [(pk_c ‹_› ‹_›).1]
 ·rw [(pk_c ‹_› ‹_›).1]
 ·rw [(pk_c ‹_› ‹_›).1]
 ·rw [(pk_c ‹_› ‹_›).2];rfl
def sp_s_xl00Src_one (p:Pr):MSpec:=msp (mS (a1 aI)) (fun (σ,n)=>SrOk 999999999000 σ) (fun (σ,n)=>.b (std.eqI (pkV σ n) 0)) (fun (σ,n)=>srH (pkS σ n))
theorem ok_s_xl00Src_one:MOk Tryz.prog 96 (sp_s_xl00Src_one std):=by
 refine MOk.go (c:=cx std [] [(64,sp_s_xl00Src_pick std)] 1) (cx_ok .nil (.cons ok_s_xl00Src_pick .nil)) mixed Tryz.func96 rfl rfl (by kernel_rfl) ?_
 rintro ⟨σ,n⟩ hp
 dsimp only at hp
 refine⟨rfl,?_⟩
 unfold sp_s_xl00Src_pick
 generalize hP:std=p,hB0:pkV=B0,hB1:pkS=B1
 cbv
 repeat' first
  | (refine fun (_:Unit)=>?_;cbv)
  | (refine aI2 (fun h=>?_) (fun h=>?_)<;>cbv)
  | (refine aI2 ?_ ?_)
  | (refine Or.inl (fun (_:Unit)=>?_);cbv)
 all_goals subst hP hB0 hB1
 all_goals try exact fin
def amV (σ:Src) (l:List Int):Int:=l.getD (pkV σ l.length).toNat 0
end Ax
namespace Ax
set_option maxRecDepth 100000
set_option maxHeartbeats 2000000
def splitA (c:UInt8) (cur:List UInt8):List UInt8→List (List UInt8)
 | []=>[cur]
 | x::r=>if x=c then cur::splitA c [] r else splitA c (cur++[x]) r
def splitS (c:UInt8) (s:List UInt8):List (List UInt8):=splitA c [] s
def numG (n:Int):List UInt8→Int
 | []=>n
 | x::r=>numG (10*n+((x.toNat:Int)-48)) r
def numV (s:List UInt8):Int:=numG 0 s
def digG:Nat→Nat→List UInt8
 | 0,_=>[]
 | k+1,n=>if n=0 then [] else digG k (n/10)++[UInt8.ofNat (48+n%10)]
def decS (n:Int):List UInt8:=if n=0 then [48] else digG 20 n.toNat
def wordT (t:TS) (w:List UInt8):TS:=match splitS 120 w with
 | [c::v,d]=>if c=63∧v=[] then { t with blanks:=numV d } else { t with letters:=t.letters++[c],values:=t.values++[numV v],counts:=t.counts++[numV d] }
 | _=>t
def smallS:List UInt8:=[97,49,120,51,32,101,49,120,51,32,110,50,120,50,32,114,50,120,50,32,115,49,120,50,32,116,50,120,50,32,63,120,49]
def smallT:TS:=⟨[97,101,110,114,115,116],[1,1,2,2,1,2],[3,3,2,2,2,2],1⟩
theorem small_ok:tsB smallT=true:=by decide +kernel
end Ax
namespace Ax
set_option maxRecDepth 100000
set_option maxHeartbeats 2000000
@[reducible] def someW:List (List UInt8):=
 [97,110]::
 [97,116]::
 [97,116,101]::
 [101,97,114]::
 [101,97,114,110]::
 [101,97,114,115]::
 [101,97,115,116]::
 [101,97,116]::
 [101,97,116,101,110]::
 [101,97,116,115]::
 [101,110]::
 [97,110,116]::
 [97,110,116,115]::
 [97,114,101]::
 [97,114,101,110,97]::
 [97,114,116]::
 [97,114,116,115]::
 [97,115]::
 [101,114]::
 [101,115]::
 [105,110]::
 [105,115]::
 [110,97]::
 [110,101]::
 [110,101,97,114]::
 [110,101,97,116]::
 [110,101,115,116]::
 [110,101,115,116,115]::
 [110,101,116]::
 [114,97,116]::
 [114,97,116,101]::
 [114,97,116,101,115]::
 [114,101]::
 [114,101,115,116]::
 [115,97,116]::
 [115,101,97]::
 [115,101,97,116]::
 [115,101,116]::
 [116,97]::
 [116,97,114]::
 [116,97,114,115]::
 [116,97,114,116]::
 [116,101,97]::
 [116,101,97,114]::
 [116,101,97,115]::
 [116,101,110]::
 [116,101,114,110]::
 [116,101,115,116]::
 [116,101,115,116,115]::
 [116,114,101,101,115]::
 [98,97,110,97,110,97]::
 [98,101,101]::
 [98,101,101,110]::
 [98,101,101,115]::
 [115,116,97,114]::
 [115,116,97,114,101]::
 [115,116,97,114,116]::
 [116,114,101,101]::
 [115,116,97,114,115]::
 [116,114,101,97,116,115]::[]
def cutW (l:List (List UInt8)) (t:List UInt8):Nat→Nat
 | 0=>0
 | k+1=>if Op.bytesLess t (l.getD k []) then cutW l t k else k+1
def insW (l:List (List UInt8)) (t:List UInt8):List (List UInt8):=
 if 0<cutW l t l.length∧l.getD (cutW l t l.length-1) []=t then l else l.take (cutW l t l.length)++[t]++l.drop (cutW l t l.length)
def makeW (l:List (List UInt8)):List (List UInt8):=l.foldl insW []
def allW:List (List UInt8):=makeW someW
theorem all_lex:lexB allW=true:=by decide +kernel
def minI (a b:Int):Int:=if a<b then a else b
def maxI (a b:Int):Int:=if a>b then a else b
def stdA (n r c:Int):Int:=minI (minI r (n-1-r)) (minI c (n-1-c))
def stdB (n r c:Int):Int:=maxI (minI r (n-1-r)) (minI c (n-1-c))
def stdV (n r c:Int):UInt8:=
 if stdA n r c=0∧(stdB n r c=0∨stdB n r c=(n-1)/2) then 116 else if stdA n r c=stdB n r c then 100 else if (stdA n r c+stdB n r c)%6=4 then 51 else if (stdA n r c+stdB n r c)%4=3 then 50 else 46
def stdP (n:Int):List UInt8:=((List.range n.toNat).map fun r:Nat=>(List.range n.toNat).map fun c:Nat=>stdV n r c).flatten
def stdBd (n:Int):Bd:=⟨n,stdP n,List.replicate (n*n).toNat 46⟩
theorem std_ok5:bdB (stdBd 5)=true∧lettersS (stdBd 5)=[]:=by decide +kernel
theorem std_ok7:bdB (stdBd 7)=true∧lettersS (stdBd 7)=[]:=by decide +kernel
theorem std_ok9:bdB (stdBd 9)=true∧lettersS (stdBd 9)=[]:=by decide +kernel
def aenT:TS:=⟨[97,101,110,115,116],[1,1,2,1,2],[4,5,3,4,4],2⟩
def aerT:TS:=⟨[97,101,110,114,115,116],[1,1,2,2,1,2],[4,6,4,4,5,5],2⟩
theorem aen_ok:tsB aenT=true:=by decide +kernel
theorem aer_ok:tsB aerT=true:=by decide +kernel
theorem aen_len:(allT aenT).length =22:=by decide +kernel
theorem aer_len:(allT aerT).length =30:=by decide +kernel
theorem small_len:(allT smallT).length =15:=by decide +kernel
end Ax
namespace Ax
set_option maxRecDepth 100000
def waysL:List UInt8→List UInt8→List (List UInt8)
 | _,[]=>[[]]
 | p,c::r=>(if takeB p [63] then (waysL (takeS p [63]) r).map (fun x=>(c-97+65)::x) else [])++(if takeB p [c] then (waysL (takeS p [c]) r).map (fun x=>c::x) else [])
theorem take1 (c:UInt8) : ∀a:List UInt8,takeGo a [c]=if c∈a then (a.erase c,[]) else (a,[c])
 | []=>rfl
 | x::a=>by
   by_cases h:c=x
   ·subst h
    rw [take_eq,if_pos (List.mem_cons_self ..),List.erase_cons_head]
    have:=takeGo_nil a
    refine Prod.ext ?_ this
    show (takeGo a []).1=a
    induction a with
    | nil=>rfl
    | cons y a ih=>rw [take_nil];show y::(takeGo a []).1=y::a;rw [ih (takeGo_nil a)]
   ·rw [take_ne h,take1 c a]
    by_cases h2:c∈a
    ·rw [if_pos h2,if_pos (List.mem_cons_of_mem _ h2),List.erase_cons_tail (by simpa using Ne.symm h)]
    ·rw [if_neg h2,if_neg (by simp [h,h2])]
theorem takeB1 (a:List UInt8) (c:UInt8):takeB a [c]=decide (c∈a):=by
 unfold takeB
 rw [take1]
 split<;>rename_i h
 ·rw [decide_eq_true h];rfl
 ·rw [decide_eq_false h];rfl
theorem takeS1 (a:List UInt8) (c:UInt8):takeS a [c]=a.erase c:=by
 unfold takeS
 rw [take1]
 split<;>rename_i h
 ·rfl
 ·rw [List.erase_of_not_mem h]
def needL:List UInt8→List UInt8→Nat
 | _,[]=>0
 | l,c::r=>if takeB l [c] then needL (takeS l [c]) r else needL l r+1
def blnN (s:List UInt8):Nat:=s.count 63
def mkB (p w:List UInt8):Bool:=decide (needL p w≤blnN p)
theorem need_blank : ∀(r p:List UInt8),(63:UInt8) ∉ r→needL (p.erase 63) r=needL p r
 | [],_,_=>rfl
 | c::r,p,h=>by
   have hc:c≠63:=fun e=>h (e ▸ List.mem_cons_self ..)
   have hr:(63:UInt8) ∉ r:=fun e=>h (List.mem_cons_of_mem _ e)
   have hm:(c∈p.erase 63)=(c∈p):=by rw [eq_iff_iff];exact List.mem_erase_of_ne hc
   rw [needL,needL,takeB1,takeB1,takeS1,takeS1]
   by_cases h2:c∈p
   ·rw [decide_eq_true h2,decide_eq_true (hm ▸ h2),if_pos rfl,if_pos rfl,List.erase_comm,need_blank r _ hr]
   ·rw [decide_eq_false h2,decide_eq_false (hm ▸ h2),if_neg (by decide),if_neg (by decide),need_blank r _ hr]
theorem ways_some : ∀(r p:List UInt8),(63:UInt8) ∉ r→needL p r≤blnN p→waysL p r≠[]
 | [],_,_,_=>by rw [waysL];exact List.cons_ne_nil _ _
 | c::r,p,h,hn=>by
   have hc:c≠63:=fun e=>h (e ▸ List.mem_cons_self ..)
   have hr:(63:UInt8) ∉ r:=fun e=>h (List.mem_cons_of_mem _ e)
   rw [needL,takeB1,takeS1] at hn
   rw [waysL,takeB1,takeS1,takeB1,takeS1]
   by_cases h2:c∈p
   ·rw [decide_eq_true h2,if_pos rfl] at hn
    have h3:blnN (p.erase c)=blnN p:=by unfold blnN;exact List.count_erase_of_ne (Ne.symm hc)
    have ih:=ways_some r (p.erase c) hr (by rw [h3];exact hn)
    rw [decide_eq_true h2]
    intro e
    have e2:=(List.append_eq_nil_iff.1 e).2
    simp only [if_true,List.map_eq_nil_iff] at e2
    exact ih e2
   ·rw [decide_eq_false h2,if_neg (by decide)] at hn
    have h4:(63:UInt8)∈p:=by
     refine List.count_pos_iff.1 ?_
     unfold blnN at hn
     omega
    have h3:blnN (p.erase 63)=blnN p-1:=by unfold blnN;rw [List.count_erase_self]
    have ih:=ways_some r (p.erase 63) hr (by rw [h3,need_blank r p hr];omega)
    rw [decide_eq_true h4]
    intro e
    have e2:=(List.append_eq_nil_iff.1 e).1
    simp only [if_true,List.map_eq_nil_iff] at e2
    exact ih e2
theorem ways_len : ∀(r p:List UInt8),(waysL p r).length ≤2 ^ r.length
 | [],_=>by rw [waysL];exact Nat.le_refl _
 | c::r,p=>by
   have h1:=ways_len r (takeS p [63])
   have h2:=ways_len r (takeS p [c])
   rw [waysL,List.length_append,List.length_cons,Nat.pow_succ]
   have e1:(if takeB p [63] then (waysL (takeS p [63]) r).map (fun x=>(c-97+65)::x) else []).length ≤2 ^ r.length:=by
    split
    ·rw [List.length_map];exact h1
    ·exact Nat.zero_le _
   have e2:(if takeB p [c] then (waysL (takeS p [c]) r).map (fun x=>c::x) else []).length ≤2 ^ r.length:=by
    split
    ·rw [List.length_map];exact h2
    ·exact Nat.zero_le _
   omega
theorem ways_each : ∀(r p:List UInt8),∀x∈waysL p r,x.length=r.length
 | [],p,x,h=>by rw [waysL] at h;rw [List.mem_singleton.1 h]
 | c::r,p,x,h=>by
   rw [waysL,List.mem_append] at h
   rcases h with h | h
   all_goals
    split at h
    ·obtain⟨y,hy,rfl⟩:=List.mem_map.1 h
     rw [List.length_cons,List.length_cons,ways_each r _ y hy]
    ·cases h
def fromW (ws:List (List UInt8)) (p:List UInt8):List (List UInt8):=ws.filter (mkB p)
theorem from_can {ws:List (List UInt8)} {p x:List UInt8} (h:x∈fromW ws p):x∈ws∧needL p x≤blnN p:=by
 obtain⟨h1,h2⟩:=List.mem_filter.1 h
 exact⟨h1,of_decide_eq_true h2⟩
end Ax
namespace Ax
set_option maxRecDepth 100000
set_option maxHeartbeats 2000000
def cntI (s:List UInt8) (c:UInt8):Int:=(s.count c:Nat)
theorem cnt_step {s:List UInt8} {c:UInt8} {k:Int} (h0:0≤k) (h:k<s.length):cntI (s.drop k.toNat) c=(if s.getD k.toNat 0=c then 1 else 0)+cntI (s.drop (k+1).toNat) c:=by
 unfold cntI
 rw [dc h0 h 0,List.count_cons]
 by_cases e:s.getD k.toNat 0=c
 ·rw [if_pos e,if_pos (by simpa using e)];omega
 ·rw [if_neg e,if_neg (by simpa using e)];omega
theorem cnt_end {s:List UInt8} {c:UInt8} {k:Int} (h:(s.length:Int)≤k):cntI (s.drop k.toNat) c=0:=by
 unfold cntI
 rw [dn h];rfl
theorem byte_t {s:List UInt8} {k n:Int} (h:std.eqI (std.byte s k) n=true) (hn:0≤n∧n≤255):s.getD k.toNat 0=UInt8.ofNat n.toNat:=by
 have h1:((s.getD k.toNat 0).toNat : Int)=n:=beq_iff_eq.1 h
 have h2:=(s.getD k.toNat 0).toNat_lt
 refine UInt8.toNat_inj.1 ?_
 rw [UInt8.toNat_ofNat']
 omega
theorem byte_f {s:List UInt8} {k n:Int} (h:std.eqI (std.byte s k) n=false) (hn:0≤n∧n≤255) : ¬s.getD k.toNat 0=UInt8.ofNat n.toNat:=by
 intro e
 have h1 : ¬((s.getD k.toNat 0).toNat : Int)=n:=fun e=>by rw [show std.eqI (std.byte s k) n=true from beq_iff_eq.2 e] at h;cases h
 rw [e,UInt8.toNat_ofNat'] at h1
 omega
def sp_s_l17Count (p:Pr):FSpec:=fsp (ac aS (a1 aC)) (fun (s,n)=>p.ltM (p.lenS s)∧p.inK .u8 n) (fun (s,n)=>.i .i64 (cntI s (u8 n)))
theorem ok_s_l17Count:FOk Tryz.prog 279 (sp_s_l17Count std):=by
 refine FOk.go (c:=cx std [] [] 0) (cx_ok .nil .nil) mixed Tryz.func279 rfl rfl rfl (by kernel_rfl) ?_
 rintro ⟨s,n⟩ hp
 dsimp only at hp
 refine⟨rfl,?_⟩
 obtain⟨H,hH⟩ : ∃H:Hd (Int×Int),H=⟨fun (m,k)=>0≤k∧k≤s.length∧0≤m∧m≤k∧cntI s (u8 n)=m+cntI (s.drop k.toNat) (u8 n),fun (m,k)=>(s.length-k).toNat,(· < ·)⟩:=⟨_,rfl⟩
 have hl : ∀m n,H.lt m n→m<n:=by subst hH;exact fun _ _ h=>h
 generalize hP:std=p,hB0:cntI=B0,hB1:u8=B1
 cbv
 repeat' first
  | (refine fun (_:Unit)=>?_;cbv)
  | (refine Or.inr ⟨7,[],[.s 5 (.i .i64),.s 6 (.i .i64)],[],[],H,rfl,hl,?_,fun ((m,k):Int×Int) hk=>?_⟩<;>cbv)
  | (refine aI2 (fun h=>?_) (fun h=>?_)<;>cbv)
  | (refine aI2 ?_ ?_)
 all_goals subst hP hB0 hB1 hH
 all_goals clear hl
 all_goals try dsimp only at hk
 all_goals try dsimp only
 all_goals try exact fin
 all_goals obtain⟨q0,q1,q2,q3,q4⟩:=hk
 all_goals have hn:0≤n∧n≤255:=hp.2
 all_goals have hu:u8 n=UInt8.ofNat n.toNat:=rfl
 all_goals try (have hlt:k<(s.length:Int):=lt_of ‹_›)
 ·have e:=byte_t h hn
  refine⟨by show 0≤k+1;omega,by show k+1≤(s.length:Int);omega,by show 0≤m+1;omega,by show m+1≤k+1;omega,?_⟩
  show _=m+1+cntI (s.drop (k+1).toNat) (u8 n)
  rw [q4,cnt_step q0 hlt,if_pos (by rw [hu];exact e)];omega
 ·have e:=byte_f h hn
  refine⟨by show 0≤k+1;omega,by show k+1≤(s.length:Int);omega,q2,by show m≤k+1;omega,?_⟩
  show _=m+cntI (s.drop (k+1).toNat) (u8 n)
  rw [q4,cnt_step q0 hlt,if_neg (by rw [hu];exact e)];omega
 ·rw [q4,cnt_end (ge_of h)];omega
def blnI (s:List UInt8):Int:=(blnN s:Nat)
theorem bln_c (s:List UInt8):blnI s=cntI s 63:=rfl
def sp_s_l03Blanks (p:Pr):FSpec:=fsp (a1 aS) (fun s=>p.ltM (p.lenS s)) (fun s=>.i .i64 (blnI s))
theorem ok_s_l03Blanks:FOk Tryz.prog 300 (sp_s_l03Blanks std):=by
 refine FOk.go (c:=cx std [] [] 0) (cx_ok .nil .nil) mixed Tryz.func300 rfl rfl rfl (by kernel_rfl) ?_
 rintro s hp
 refine⟨rfl,?_⟩
 obtain⟨H,hH⟩ : ∃H:Hd (Int×Int),H=⟨fun (m,k)=>0≤k∧k≤s.length∧0≤m∧m≤k∧blnI s=m+blnI (s.drop k.toNat),fun (m,k)=>(s.length-k).toNat,(· < ·)⟩:=⟨_,rfl⟩
 have hl : ∀m n,H.lt m n→m<n:=by subst hH;exact fun _ _ h=>h
 generalize hP:std=p,hB0:blnI=B0
 cbv
 repeat' first
  | (refine fun (_:Unit)=>?_;cbv)
  | (refine Or.inr ⟨5,[],[.s 3 (.i .i64),.s 4 (.i .i64)],[],[],H,rfl,hl,?_,fun ((m,k):Int×Int) hk=>?_⟩<;>cbv)
  | (refine aI2 (fun h=>?_) (fun h=>?_)<;>cbv)
  | (refine aI2 ?_ ?_)
 all_goals subst hP hB0 hH
 all_goals clear hl
 all_goals try dsimp only at hk
 all_goals try dsimp only
 all_goals try exact fin
 all_goals obtain⟨q0,q1,q2,q3,q4⟩:=hk
 all_goals simp only [bln_c] at q4 ⊢
 all_goals try (have hlt:k<(s.length:Int):=lt_of ‹_›)
 ·have e:=byte_t h (by decide)
  refine⟨by show 0≤k+1;omega,by show k+1≤(s.length:Int);omega,by show 0≤m+1;omega,by show m+1≤k+1;omega,?_⟩
  show _=m+1+cntI (s.drop (k+1).toNat) 63
  rw [q4,cnt_step q0 hlt,if_pos (show s.getD k.toNat 0=63 from e)];omega
 ·have e:=byte_f h (by decide)
  refine⟨by show 0≤k+1;omega,by show k+1≤(s.length:Int);omega,q2,by show m≤k+1;omega,?_⟩
  show _=m+cntI (s.drop (k+1).toNat) 63
  rw [q4,cnt_step q0 hlt,if_neg (show ¬s.getD k.toNat 0=63 from e)];omega
 ·rw [q4,cnt_end (ge_of h)];omega
def needI (p w:List UInt8):Int:=(needL p w:Nat)
theorem one_c {q:List UInt8} {k:Int} (h0:0≤k) (h:k<q.length):std.drp (std.tak q (std.add k 1)) k=[q.getD k.toNat 0]:=by
 show (q.take (k+1).toNat).drop k.toNat=_
 rw [tk h0 h 0,List.drop_append_of_le_length (by rw [List.length_take];omega),List.drop_of_length_le (by rw [List.length_take];omega)];rfl
theorem need_step {l q:List UInt8} {k:Int} (h0:0≤k) (h:k<q.length):needI l (q.drop k.toNat)=if takeB l [q.getD k.toNat 0] then needI (takeS l [q.getD k.toNat 0]) (q.drop (k+1).toNat) else 1+needI l (q.drop (k+1).toNat):=by
 unfold needI
 rw [dc h0 h 0,needL]
 split<;>omega
theorem takeS_le (l:List UInt8) (c:UInt8):(takeS l [c]).length ≤l.length:=by
 rw [takeS1];exact List.length_erase_le
def sp_s_l03Need (p:Pr):FSpec:=fsp (ac aS (a1 aS)) (fun (s,q)=>p.ltM (p.lenS s)∧p.ltM (p.lenS q)) (fun (s,q)=>.i .i64 (needI s q))
theorem ok_s_l03Need:FOk Tryz.prog 299 (sp_s_l03Need std):=by
 refine FOk.go (c:=cx std [(126,sp_s_l03Take std)] [] 0) (cx_ok (.cons ok_s_l03Take .nil) .nil) mixed Tryz.func299 rfl rfl rfl (by kernel_rfl) ?_
 rintro ⟨s,q⟩ hp
 dsimp only at hp
 refine⟨rfl,?_⟩
 unfold sp_s_l03Take
 obtain⟨H,hH⟩ : ∃H:Hd (List UInt8×Int×Int),H=⟨fun (l,m,k)=>0≤k∧k≤q.length∧0≤m∧m≤k∧l.length≤s.length∧needI s q=m+needI l (q.drop k.toNat),fun (l,m,k)=>(q.length-k).toNat,(· < ·)⟩:=⟨_,rfl⟩
 have hl : ∀m n,H.lt m n→m<n:=by subst hH;exact fun _ _ h=>h
 generalize hP:std=p,hB0:needI=B0,hB1:takeS=B1,hB2:takeB=B2
 cbv
 repeat' first
  | (refine fun (_:Unit)=>?_;cbv)
  | (refine Or.inr ⟨11,[],[.s 5 .s,.s 6 (.i .i64),.s 7 (.i .i64)],[],[],H,rfl,hl,?_,fun ((l,m,k):List UInt8×Int×Int) hk=>?_⟩<;>cbv)
  | (refine aI2 (fun h=>?_) (fun h=>?_)<;>cbv)
  | (refine aI2 ?_ ?_)
 all_goals subst hP hB0 hB1 hB2 hH
 all_goals clear hl
 all_goals try dsimp only at hk
 all_goals try dsimp only
 all_goals try exact fin
 all_goals obtain⟨q0,q1,q2,q3,q4,q5⟩:=hk
 all_goals try (have hlt:k<(q.length:Int):=lt_of ‹_›)
 ·rw [one_c q0 hlt] at h ⊢
  refine⟨by show 0≤k+1;omega,by show k+1≤(q.length:Int);omega,q2,by show m≤k+1;omega,Nat.le_trans (takeS_le _ _) q4,?_⟩
  show _=m+needI _ (q.drop (k+1).toNat)
  rw [q5,need_step q0 hlt,if_pos h]
 ·rw [one_c q0 hlt] at h
  refine⟨by show 0≤k+1;omega,by show k+1≤(q.length:Int);omega,by show 0≤m+1;omega,by show m+1≤k+1;omega,q4,?_⟩
  show _=m+1+needI _ (q.drop (k+1).toNat)
  rw [q5,need_step q0 hlt,if_neg (by rw [h];decide)];omega
 ·rw [q5,dn (ge_of h)]
  show m=m+((needL l []:Nat):Int)
  rw [needL];omega
def sp_s_l03Can (p:Pr):FSpec:=fsp (ac aS (a1 aS)) (fun (s,q)=>p.ltM (p.lenS s)∧p.ltM (p.lenS q)) (fun (s,q)=>.b (mkB s q))
theorem ok_s_l03Can:FOk Tryz.prog 255 (sp_s_l03Can std):=by
 refine FOk.go (c:=cx std [(299,sp_s_l03Need std),(300,sp_s_l03Blanks std)] [] 0) (cx_ok (.cons ok_s_l03Need (.cons ok_s_l03Blanks .nil)) .nil) mixed Tryz.func255 rfl rfl rfl (by kernel_rfl) ?_
 rintro ⟨s,q⟩ hp
 dsimp only at hp
 refine⟨rfl,?_⟩
 unfold sp_s_l03Need sp_s_l03Blanks
 generalize hP:std=p,hB0:mkB=B0,hB1:needI=B1,hB2:blnI=B2
 cbv
 repeat' first
  | (refine fun (_:Unit)=>?_;cbv)
  | (refine aI2 (fun h=>?_) (fun h=>?_)<;>cbv)
  | (refine aI2 ?_ ?_)
  | (refine Or.inl (fun (_:Unit)=>?_);cbv)
 all_goals subst hP hB0 hB1 hB2
 all_goals try exact fin
 ·show decide (needI s q≤blnI s)=decide (needL s q≤blnN s)
  unfold needI blnI
  rw [Bool.eq_iff_iff,decide_eq_true_eq,decide_eq_true_eq];omega
end Ax
end Go.Proofs.YtjjonmhpgkahoaaGreatDoor
