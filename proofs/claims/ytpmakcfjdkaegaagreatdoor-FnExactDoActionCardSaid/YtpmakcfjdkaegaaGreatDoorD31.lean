/-
  Codes of actions, of the spec package; Exits of a turn with a play, of the spec package; What a turn with a play rests on: facts of a game in which an action may be done; Facts of a turn with a play; How long things are whose size is common; Challenges: what is decided about a play, what follows; Challenges: facts of a game whose last play can be challenged; Turns without points: what a pass and an exchange make of a game; Turns without points, of the spec package: exchanges of tiles, the end of the turn.
  Conditions: as each part below says.
-/
import Derived.Test.YtpmakcfjdkaegaaGreatDoorD30
import Derived.Test.YtpmakcfjdkaegaaGreatDoorD29
import Derived.Test.YtpmakcfjdkaegaaGreatDoorD28
import Derived.Test.YtpmakcfjdkaegaaGreatDoorD19
set_option linter.unusedSimpArgs false
set_option linter.unusedVariables false
namespace Go.Proofs.YtpmakcfjdkaegaaGreatDoor
namespace Ax
set_option maxRecDepth 100000
set_option maxHeartbeats 2000000
structure SaF (g:Gm):Prop where
 s:g.scores.length=2
 k:g.clocks.length=2
 ply:0≤g.player∧g.player≤1
 clk : -36000≤g.clk g.player∧g.clk g.player≤36000
theorem sa_facts {g:Gm} (h:gameB g=true):SaF g:=by
 unfold gameB twoB sideB at h
 simp only [Bool.and_eq_true,decide_eq_true_eq] at h
 have hp:=in_bd h.2.1.2.2.2.1
 have k0:=in_bd h.2.2.1.1.2.2
 have k1:=in_bd h.2.2.1.2.2.2
 refine⟨h.2.1.2.1,h.2.1.2.2.1,hp,?_⟩
 unfold Gm.clk
 rcases (show g.player.toNat=0∨g.player.toNat=1 by omega) with e | e<;>rw [e]
 ·exact k0
 ·exact k1
theorem sa_over {g:Gm} {n:Int} (h:gameB g=true) (ho:g.over=true):actC g n=10:=by
 unfold actC;rw [if_pos h,if_pos ho]
theorem sa_2a {g:Gm} {n:Int} (h:gameB g=true) (ho:g.over=false) (hn:inR n 0 36000=false):actC g n=2:=by
 unfold actC;rw [if_pos h,if_neg (by rw [ho];simp),hn,if_neg (by simp)]
theorem sa_2b {g:Gm} {n:Int} (h:gameB g=true) (ho:g.over=false) (hn:std.ltI (g.clk g.player-n) (-36000)=true):actC g n=2:=by
 have h1:=lt_of hn
 unfold actC;rw [if_pos h,if_neg (by rw [ho];simp),decide_eq_false (by omega),Bool.and_false,if_neg (by simp)]
theorem sa_go {g:Gm} {n:Int} (h:gameB g=true) (ho:g.over=false) (hi:inR n 0 36000=true) (hn:std.ltI (g.clk g.player-n) (-36000)=false):actC g n=if inR (g.sc 0) (-50000) 50000&&inR (g.sc 1) (-50000) 50000 then 0 else 5:=by
 have h1:=ge_of hn
 unfold actC;rw [if_pos h,if_neg (by rw [ho];simp),hi,decide_eq_true (by omega)];rfl
def sp_s_l18Begin (p:Pr):FSpec:=fsp (ac (aP aGm) (a1 aI)) (fun (g,n)=>GmL g) (fun (g,n)=>.i .i64 (actC g n))
theorem ok_s_l18Begin:FOk Tryz.prog 149 (sp_s_l18Begin std):=by
 refine FOk.go (c:=cx std [(41,sp_s_l18Ok std),(86,sp_s_l00In std),(153,sp_s_l18Points std)] [] 0) (cx_ok (.cons ok_s_l18Ok (.cons ok_s_l00In (.cons ok_s_l18Points .nil))) .nil) mixed Tryz.func149 rfl rfl rfl (by kernel_rfl) ?_
 rintro ⟨g,n⟩ hp
 dsimp only at hp
 refine⟨rfl,?_⟩
 unfold sp_s_l18Ok sp_s_l00In sp_s_l18Points
 generalize hP:std=p
 generalize hB0:actC=B0
 generalize hB1:gameB=B1
 generalize hB2:inR=B2
 cbv
 repeat' first
  | (refine fun (_:Unit)=>?_;cbv)
  | (refine And.intro (fun h=>?_) (fun h=>?_)<;>cbv)
  | (refine And.intro ?_ ?_)
  | (refine Or.inl (fun (_:Unit)=>?_);cbv)
 all_goals subst hP hB0 hB1 hB2
 all_goals try exact fin
 all_goals try (have hf:=sa_facts (show gameB g=true by assumption);have hpl:=hf.ply;have hck:=hf.clk;have hkl:=hf.k;have hsl:=hf.s)
 all_goals try (have hn:=in_bd (show inR n 0 36000=true by assumption))
 all_goals first
  | exact⟨hpl.1,by show g.player<(g.clocks.length:Int);omega⟩
  | exact⟨by decide,by show (0:Int)<(g.scores.length:Int);omega⟩
  | exact⟨by decide,by show (1:Int)<(g.scores.length:Int);omega⟩
  | exact in64 (by show _≤g.clk g.player-n∧g.clk g.player-n≤_;omega)
  | (unfold actC;rw [if_neg (by rw [show gameB g=false by assumption];simp)];done)
  | (rw [sa_over (by assumption) (by assumption)];done)
  | (rw [sa_2b (by assumption) (by assumption) (by assumption)];done)
  | (rw [sa_2a (by assumption) (by assumption) (by assumption)];done)
  | (rw [sa_go (by assumption) (by assumption) (by assumption) (by assumption),show inR (g.sc 0) (-50000) 50000=true by assumption,show inR (g.sc 1) (-50000) 50000=true by assumption];rfl)
  | (rw [sa_go (by assumption) (by assumption) (by assumption) (by assumption),show inR (g.sc 0) (-50000) 50000=false by assumption];rfl)
  | (rw [sa_go (by assumption) (by assumption) (by assumption) (by assumption),show inR (g.sc 1) (-50000) 50000=false by assumption,Bool.and_false];rfl)
  | exact hp
  | skip
end Ax
end Go.Proofs.YtpmakcfjdkaegaaGreatDoor
namespace Go.Proofs.YtpmakcfjdkaegaaGreatDoor
namespace Ax
set_option maxRecDepth 100000
set_option maxHeartbeats 2000000
section
variable {g:Gm} {q:Pl} {n:Int}
theorem sg (h:std.eqI (actC g n) 0=true):gameB g=true:=by
 have h:=eqI_t h
 unfold actC at h
 by_cases h1:gameB g=true
 ·exact h1
 ·rw [if_neg h1] at h;exact absurd h (by decide)
theorem sg_bd (h:gameB g=true):bdB g.bd=true∧rackB (g.rk g.player)=true:=by
 unfold gameB shapeB twoB sideB at h
 simp only [Bool.and_eq_true,decide_eq_true_eq] at h
 exact⟨h.1.2.1,rk_valid h.2.2.1.1.1 h.2.2.1.2.1 h.2.1.2.2.2.1⟩
theorem sg_code (h:std.eqI (actC g n) 0=true):legalC g.bd g.lex (g.rk g.player) q=codeI g.bd g.lex (g.rk g.player) q:=
 legal_same (sg_bd (sg h)).1 _ (sg_bd (sg h)).2 q
theorem sg_score (h:std.eqI (actC g n) 0=true) (hv:validI g.bd q=true):scoreV g.ts g.bd q=scoreI g.ts g.bd q:=by
 unfold scoreV
 exact score_same (sg_bd (sg h)).1 hv
theorem se1 (hc:turnC g q n=0) (h:std.eqI (actC g n) 0=false):False:=by
 have h1:=eqI_f h
 unfold turnC at hc
 rw [if_neg h1] at hc
 exact h1 hc
theorem se2 (hc:turnC g q n=0) (h:std.eqI (actC g n) 0=true) (h2:waitsB g=true):False:=by
 have h1:=eqI_t h
 unfold turnC at hc
 rw [if_pos h1,if_pos h2] at hc
 exact absurd hc (by decide)
theorem se3 (hc:turnC g q n=0) (h:std.eqI (actC g n) 0=true) (h2:waitsB g=false) (h3:std.eqI (legalC g.bd g.lex (g.rk g.player) q) 0=false) (h4:std.eqI (legalC g.bd g.lex (g.rk g.player) q) 9=false∨std.eqI g.rule 0=true):False:=by
 have h1:=eqI_t h
 have h3:=eqI_f h3
 rw [sg_code h] at h3 h4
 unfold turnC at hc
 rw [if_pos h1,if_neg (by rw [h2];simp),if_pos ⟨h3,h4.imp eqI_f eqI_t⟩] at hc
 exact h3 hc
theorem se_val (h:std.eqI (actC g n) 0=true) (h3:std.eqI (legalC g.bd g.lex (g.rk g.player) q) 0=true∨std.eqI (legalC g.bd g.lex (g.rk g.player) q) 9=true):validI g.bd q=true∧withoutB (g.rk g.player) (tilesP (placedI g.bd q))=true:=by
 rw [sg_code h] at h3
 exact codeI_no2 (h3.imp eqI_t eqI_t)
end
end Ax
end Go.Proofs.YtpmakcfjdkaegaaGreatDoor
namespace Go.Proofs.YtpmakcfjdkaegaaGreatDoor
namespace Ax
set_option maxRecDepth 100000
set_option maxHeartbeats 2000000
structure StP' (g:Gm) (q:Pl):Prop where
 gm:GmL g
 wd:q.word.length≤1073741824
 own:GmP g
section
variable {g:Gm} {q:Pl} {n:Int}
structure GmS' (g:Gm):Prop where
 bd:bdB g.bd=true
 ts:tsB g.ts=true
 lex:lexB g.lex=true
 bag:bagB g.bag=true
 rk : ∀k:Int,rackB (g.rk k)=true
 sc : ∀k:Int, -100000≤g.sc k∧g.sc k≤100000
 clk : ∀k:Int, -36000≤g.clk k∧g.clk k≤36000
theorem gm_s' (h:gameB g=true):GmS' g:=by
 unfold gameB shapeB setupB twoB sideB at h
 simp only [Bool.and_eq_true,decide_eq_true_eq] at h
 have hp:=in_bd h.2.1.2.2.2.1
 have hg : ∀k:Int,g.rk k=g.racks.getD 0 []∨g.rk k=g.racks.getD 1 []∨g.rk k=[]:=fun k=>by
  unfold Gm.rk
  rcases (show k.toNat=0∨k.toNat=1∨2≤k.toNat by omega) with e | e | e
  ·rw [e];exact .inl rfl
  ·rw [e];exact .inr (.inl rfl)
  ·exact .inr (.inr (by rw [List.getD_eq_getElem?_getD,List.getElem?_eq_none (by have:=h.2.1.1;omega)];rfl))
 have hr : ∀k:Int,rackB (g.rk k)=true:=fun k=>by
  rcases hg k with e | e | e<;>rw [e]
  ·exact h.2.2.1.1.1
  ·exact h.2.2.1.2.1
  ·rfl
 have s0:=in_bd h.2.2.1.1.2.1
 have s1:=in_bd h.2.2.1.2.2.1
 have k0:=in_bd h.2.2.1.1.2.2
 have k1:=in_bd h.2.2.1.2.2.2
 refine⟨h.1.2.1,h.1.1.1,h.1.1.2.1,h.1.2.2.2.2,hr,fun k=>?_,fun k=>?_⟩
 ·unfold Gm.sc
  rcases (show k.toNat=0∨k.toNat=1∨2≤k.toNat by omega) with e | e | e
  ·rw [e];exact s0
  ·rw [e];exact s1
  ·rw [List.getD_eq_getElem?_getD,List.getElem?_eq_none (by have:=h.2.1.2.1;omega)];decide
 ·unfold Gm.clk
  rcases (show k.toNat=0∨k.toNat=1∨2≤k.toNat by omega) with e | e | e
  ·rw [e];exact k0
  ·rw [e];exact k1
  ·rw [List.getD_eq_getElem?_getD,List.getElem?_eq_none (by have:=h.2.1.2.2.1;omega)];decide
structure SyG (g:Gm) (n:Int):Prop where
 fa:SaF g
 r2:g.racks.length=2
 ok:GmS' g
 c : -36000≤g.clk g.player-n
 nb:0≤n∧n≤36000
 s : -50000≤g.sc g.player∧g.sc g.player≤50000
theorem syg (h:std.eqI (actC g n) 0=true):SyG g n:=by
 have h:=eqI_t h
 unfold actC at h
 by_cases h1:gameB g=true
 ·rw [if_pos h1] at h
  by_cases h2:g.over=true
  ·rw [if_pos h2] at h;exact absurd h (by decide)
  ·rw [if_neg h2] at h
   by_cases h3:(inR n 0 36000&&decide (-36000≤g.clk g.player-n))=true
   ·rw [if_pos h3] at h
    by_cases h4:(inR (g.sc 0) (-50000) 50000&&inR (g.sc 1) (-50000) 50000)=true
    ·rw [Bool.and_eq_true] at h3 h4
     have hf:=sa_facts h1
     have hp:=hf.ply
     refine⟨hf,?_,gm_s' h1,of_decide_eq_true h3.2,in_bd h3.1,?_⟩
     ·unfold gameB twoB at h1
      simp only [Bool.and_eq_true,decide_eq_true_eq] at h1
      exact h1.2.1.1
     ·rcases (show g.player=0∨g.player=1 by omega) with e | e<;>rw [e]
      ·exact in_bd h4.1
      ·exact in_bd h4.2
    ·rw [if_neg h4] at h;exact absurd h (by decide)
   ·rw [if_neg h3] at h;exact absurd h (by decide)
 ·rw [if_neg h1] at h;exact absurd h (by decide)
structure SyC (g:Gm) (q:Pl):Prop where
 pl:PlP g.bd q
 ts:TsOk g.ts
 v:validI g.bd q=true
 w:withoutB (g.rk g.player) (tilesP (placedI g.bd q))=true
 rs:takeS (g.rk g.player) (tilesS (placedS (flatB g.bd q) (flatP q)))=restT g q
 rk:rackB (restT g q)=true
 sc:0≤scoreV g.ts g.bd q∧scoreV g.ts g.bd q≤440800000050
theorem syc (hG:SyG g n) (h:std.eqI (actC g n) 0=true) (h3:std.eqI (legalC g.bd g.lex (g.rk g.player) q) 0=true∨std.eqI (legalC g.bd g.lex (g.rk g.player) q) 9=true):SyC g q:=by
 obtain⟨h1,h2⟩:=se_val h h3
 have hts:=tsB_ok hG.ok.ts
 have hr:=hG.ok.rk g.player
 refine⟨okB_on (by rw [okB_validI hG.ok.bd];exact h1),hts,h1,h2,rest_spec hG.ok.bd hr h1 h2,(restT_ok hG.ok.bd hr h1 h2).2.2,?_⟩
 rw [sg_score h h1]
 exact Go.Proofs.YtpmakcfjdkaegaaGreatDoor.score_bd hts g.bd q (by have:=(validI_facts h1).2.2.2;omega)
theorem sturn_of (hc:turnC g q n=0):std.eqI (actC g n) 0=true∧SyG g n∧SyC g q:=by
 unfold turnC at hc
 by_cases h1:actC g n=0
 ·have h:std.eqI (actC g n) 0=true:=by simpa using h1
  rw [if_pos h1] at hc
  refine⟨h,syg h,syc (syg h) h ?_⟩
  rw [sg_code h]
  by_cases h2:waitsB g=true
  ·rw [if_pos h2] at hc;exact absurd hc (by decide)
  ·rw [if_neg h2] at hc
   by_cases h3:codeI g.bd g.lex (g.rk g.player) q=0
   ·exact .inl (by simpa using h3)
   ·by_cases h4:codeI g.bd g.lex (g.rk g.player) q=9
    ·exact .inr (by simpa using h4)
    ·rw [if_pos ⟨h3,.inl h4⟩] at hc
     exact absurd hc h3
 ·rw [if_neg h1] at hc
  exact absurd hc h1
theorem waits_turn1 (hG:SyG g n):waitsB (turn1 g q n)=(isort (restT g q++g.bag.take (drawN g.bag (restT g q)))).isEmpty :=by
 have hp:=hG.fa.ply
 have hr:=hG.r2
 have e:(turn1 g q n).rk (1-(turn1 g q n).player)=isort (restT g q++g.bag.take (drawN g.bag (restT g q))):=by
  show (g.racks.set g.player.toNat (isort (restT g q++g.bag.take (drawN g.bag (restT g q))))).getD (1-(1-g.player)).toNat []=_
  rw [show (1-(1-g.player)).toNat =g.player.toNat by omega,List.getD_eq_getElem?_getD,List.getElem?_set_self (by omega)];rfl
 unfold waitsB
 rw [e]
 show ((g.bag.drop (drawN g.bag (restT g q))).isEmpty &&_)=_
 cases h:(isort (restT g q++g.bag.take (drawN g.bag (restT g q)))).isEmpty with
 | false=>simp
 | true=>rw [draw_empty h];rfl
theorem sq4 (hc:turnC g q n=0) (h:std.eqI (actC g n) 0=true) (h2:waitsB g=false) (h5:std.ltI 20000 (scoreV g.ts g.bd q)=true∨inR (g.sc g.player+scoreV g.ts g.bd q) (-50000) 50000=false):False:=by
 obtain⟨-,hG,hC⟩:=sturn_of hc
 have e:=sg_score h hC.v
 rw [e] at h5
 have hs:=hG.s
 have hc2:=hC.sc
 rw [e] at hc2
 have h1:=eqI_t h
 unfold turnC at hc
 rw [if_pos h1,if_neg (by rw [h2];simp)] at hc
 split at hc
 ·rename_i h6;exact h6.1 hc
 ·rw [if_pos (h5.imp lt_of fun h6=>by simp only [inR,Bool.and_eq_false_iff,decide_eq_false_iff_not] at h6;omega)] at hc
  exact absurd hc (by decide)
theorem sturn_sc (hc:turnC g q n=0):scoreI g.ts g.bd q≤20000:=by
 unfold turnC at hc
 by_cases h1:actC g n=0
 ·rw [if_pos h1] at hc
  by_cases h2:waitsB g=true
  ·rw [if_pos h2] at hc;exact absurd hc (by decide)
  ·rw [if_neg h2] at hc
   split at hc
   ·rename_i h6;exact absurd hc h6.1
   ·split at hc
    ·exact absurd hc (by decide)
    ·rename_i h7;omega
 ·rw [if_neg h1] at hc
  exact absurd hc h1
theorem setg_bd {α:Type} {L:List α} {i k:Nat} {x d:α} {P:α→Prop} (hx:P x) (h:P (L.getD k d)):P ((L.set i x).getD k d):=by
 rw [List.getD_eq_getElem?_getD,List.getElem?_set]
 rw [List.getD_eq_getElem?_getD] at h
 split
 ·split
  ·exact hx
  ·rename_i e1 e2
   subst e1
   rw [List.getElem?_eq_none (by omega)] at h
   exact h
 ·exact h
theorem set_turn1 (hc:turnC g q n=0):SetP (turn1 g q n):=by
 obtain⟨h,hG,hC⟩:=sturn_of hc
 have hsc:=hG.s
 have hs:=sturn_sc hc
 have hc2:=hC.sc
 rw [sg_score h hC.v] at hc2
 have hz : ∀k:Int, -1000000≤(turn1 g q n).sc k∧(turn1 g q n).sc k≤1000000:=fun k=>
  setg_bd (P:=fun x:Int=> -1000000≤x∧x≤1000000) (L:=g.scores) (i:=g.player.toNat) (k:=k.toNat) (x:=g.sc g.player+scoreI g.ts g.bd q) (d:=0) (by show -1000000≤g.sc g.player+scoreI g.ts g.bd q∧g.sc g.player+scoreI g.ts g.bd q≤1000000;omega) (by have:=hG.ok.sc k;unfold Gm.sc at this;omega)
 refine⟨⟨hC.ts,?_,?_,fun k=>?_,fun k=>?_⟩,?_,fun k=>(hz k).1,fun k=>(hz k).2⟩
 ·show (g.racks.set g.player.toNat _).length =2
  rw [List.length_set];exact hG.r2
 ·show (g.clocks.set g.player.toNat _).length =2
  rw [List.length_set];exact hG.fa.k
 ·refine setg_bd (P:=fun x:List UInt8=>x.length≤7) (L:=g.racks) (i:=g.player.toNat) (k:=k.toNat) (d:=[]) ?_ (rack_len (hG.ok.rk k))
  have h1:=rack_len hC.rk
  rw [isort_length,List.length_append,List.length_take]
  unfold drawN;omega
 ·exact setg_bd (P:=fun x:Int=> -36000≤x) (L:=g.clocks) (i:=g.player.toNat) (k:=k.toNat) (x:=g.clk g.player-n) (d:=0) hG.c (by have:=hG.ok.clk k;unfold Gm.clk at this;omega)
 ·show (g.scores.set g.player.toNat _).length =2
  rw [List.length_set];exact hG.fa.s
end
end Ax
end Go.Proofs.YtpmakcfjdkaegaaGreatDoor
namespace Go.Proofs.YtpmakcfjdkaegaaGreatDoor
namespace Ax
set_option maxRecDepth 100000
set_option maxHeartbeats 2000000
structure GcL (g:Gm):Prop where
 v:(g.ts.values.length:Int)≤1073741824
 c:(g.ts.counts.length:Int)≤1073741824
 l:(g.lex.length:Int)≤1073741824
 r:(g.racks.length:Int)≤1073741824
 s:(g.scores.length:Int)≤1073741824
 k:(g.clocks.length:Int)≤1073741824
structure PtP (g:Gm) (q:Pl):Prop where
 gm:GmQ g
 wl:(q.word.length:Int)≤1073741824
 cp:GcL g
structure PtY (g:Gm) (q:Pl) (n:Int):Prop where
 b:PtP g q
 c:turnC g q n=0
structure PtN (g:Gm) (q:Pl) (n:Int):Prop where
 b:PtP g q
 c:turnC g q n≠0
def pScore (g:Gm) (q:Pl):Int:=scoreI g.ts g.bd q
def pRack (g:Gm) (q:Pl):List UInt8:=frR g.bag (restT g q)
def pBag (g:Gm) (q:Pl):List UInt8:=frB g.bag (restT g q)
def pDrw (g:Gm) (q:Pl):List UInt8:=g.bag.take (tdI g.bag (restT g q)).toNat
def pRks (g:Gm) (q:Pl):List (List UInt8):=g.racks.set g.player.toNat (pRack g q)
def pScs (g:Gm) (q:Pl):List Int:=g.scores.set g.player.toNat (g.sc g.player+pScore g q)
def pClk (g:Gm) (n:Int):List Int:=g.clocks.set g.player.toNat (g.clk g.player-n)
def pCel (g:Gm) (q:Pl):Bd:=madeB g.bd q
def pEnd (g:Gm) (q:Pl):Bool:=g.rule==0&&(pRack g q).isEmpty
def p1 (g:Gm) (q:Pl) (n:Int):Gm:=⟨g.ts,g.lex,g.bd0,g.secs,g.rule,pCel g q,pBag g q,pRks g q,pScs g q,pClk g n,1-g.player,0,⟨1,g.player,q,g.bd.cells,pDrw g q,pScore g q,g.zeros⟩,g.over⟩
def pSs (g:Gm) (q:Pl) (n:Int):List Int:=setS (p1 g q n) (pEnd g q)
def pOv (g:Gm) (q:Pl):Bool:=ovB g (pEnd g q)
def pPl (g:Gm):Int:=1-g.player
def pG (g:Gm) (q:Pl) (n:Int):Gm:=⟨g.ts,g.lex,g.bd0,g.secs,g.rule,⟨(pCel g q).size,(pCel g q).prem,(pCel g q).cells⟩,pBag g q,pRks g q,pSs g q n,pClk g n,pPl g,0,⟨1,g.player,q,g.bd.cells,pDrw g q,pScore g q,g.zeros⟩,pOv g q⟩
section
variable {g:Gm} {q:Pl} {n:Int}
theorem pe1 (hc:turnC g q n=0) (h:std.eqI (actC g n) 0=false):False:=by
 have h1:=eqI_f h
 unfold turnC at hc
 rw [if_neg h1] at hc
 exact h1 hc
theorem pe2 (hc:turnC g q n=0) (h:std.eqI (actC g n) 0=true) (h2:waitsB g=true):False:=by
 have h1:=eqI_t h
 unfold turnC at hc
 rw [if_pos h1,if_pos h2] at hc
 exact absurd hc (by decide)
theorem pe3 (hc:turnC g q n=0) (h:std.eqI (actC g n) 0=true) (h2:waitsB g=false) (h3:std.eqI (codeI g.bd g.lex (g.rk g.player) q) 0=false) (h4:std.eqI (codeI g.bd g.lex (g.rk g.player) q) 9=false∨std.eqI g.rule 0=true):False:=by
 have h1:=eqI_t h
 have h3:=eqI_f h3
 unfold turnC at hc
 rw [if_pos h1,if_neg (by rw [h2];simp),if_pos ⟨h3,h4.imp eqI_f eqI_t⟩] at hc
 exact h3 hc
theorem pe4 (hc:turnC g q n=0) (h:std.eqI (actC g n) 0=true) (h2:waitsB g=false) (h5:std.ltI 20000 (scoreI g.ts g.bd q)=true∨std.ltI 50000 (g.sc g.player+scoreI g.ts g.bd q)=true):False:=by
 have h1:=eqI_t h
 unfold turnC at hc
 rw [if_pos h1,if_neg (by rw [h2];simp)] at hc
 split at hc
 ·rename_i h6;exact h6.1 hc
 ·rw [if_pos (h5.imp lt_of lt_of)] at hc
  exact absurd hc (by decide)
structure PyG (g:Gm) (n:Int):Prop where
 fa:GmF g
 ok:GmS' g
 n:0≤n∧n≤36000
theorem pyg (h:std.eqI (actC g n) 0=true):PyG g n:=by
 have h:=eqI_t h
 unfold actC at h
 by_cases h1:gameB g=true
 ·rw [if_pos h1] at h
  by_cases h2:g.over=true
  ·rw [if_pos h2] at h;exact absurd h (by decide)
  ·rw [if_neg h2] at h
   by_cases h3:(inR n 0 36000&&decide (-36000≤g.clk g.player-n))=true
   ·rw [Bool.and_eq_true] at h3
    exact⟨gm_facts h1,gm_s' h1,in_bd h3.1⟩
   ·rw [if_neg h3] at h;exact absurd h (by decide)
 ·rw [if_neg h1] at h;exact absurd h (by decide)
structure PyC (g:Gm) (q:Pl):Prop where
 vp:VP g.bd q
 rk:rackB (restT g q)=true
theorem pyc (hG:PyG g n) (h:std.eqI (codeI g.bd g.lex (g.rk g.player) q) 0=true∨std.eqI (codeI g.bd g.lex (g.rk g.player) q) 9=true):PyC g q:=by
 obtain⟨h1,h2⟩:=codeI_no2 (h.imp eqI_t eqI_t)
 exact⟨VP.of hG.ok.bd h1,(restT_ok hG.ok.bd (hG.ok.rk _) h1 h2).2.2⟩
theorem lex_lxp {ws:List (List UInt8)} (h:lexB ws=true):LxP ws:=by
 unfold lexB at h
 rw [Bool.and_eq_true,decide_eq_true_eq,lex_adj,Bool.and_eq_true] at h
 exact⟨by rw [inc_adj];exact h.1.1,by omega⟩
theorem sco_bd {t:TS} {b:Bd} (h:TsOk t) (hp:VP b q):0≤scoreI t b q∧scoreI t b q≤134306167810:=by
 have h1:=score_bd h hp
 unfold scoreI
 split<;>omega
theorem turn_of (hc:turnC g q n=0):PyG g n∧PyC g q:=by
 unfold turnC at hc
 by_cases h1:actC g n=0
 ·have hG:PyG g n:=pyg (by simpa using h1)
  rw [if_pos h1] at hc
  refine⟨hG,pyc hG ?_⟩
  by_cases h2:waitsB g=true
  ·rw [if_pos h2] at hc;exact absurd hc (by decide)
  ·rw [if_neg h2] at hc
   by_cases h3:codeI g.bd g.lex (g.rk g.player) q=0
   ·exact .inl (by simpa using h3)
   ·by_cases h4:codeI g.bd g.lex (g.rk g.player) q=9
    ·exact .inr (by simpa using h4)
    ·rw [if_pos ⟨h3,.inl h4⟩] at hc
     exact absurd hc h3
 ·rw [if_neg h1] at hc
  exact absurd hc h1
theorem td_nat (h:rackB (restT g q)=true):(tdI g.bag (restT g q)).toNat =drawN g.bag (restT g q):=by
 have:=rack_len h
 unfold tdI drawN;omega
theorem rack_eq (hG:PyG g n) (hC:PyC g q):pRack g q=isort (restT g q++g.bag.take (drawN g.bag (restT g q))):=by
 unfold pRack frR
 rw [hG.ok.bag,hC.rk,td_nat hC.rk]
 exact sort_pile (fr_stp hG.ok.bag hC.rk).ti
theorem turn_sc (hc:turnC g q n=0):scoreI g.ts g.bd q≤20000:=by
 unfold turnC at hc
 by_cases h1:actC g n=0
 ·rw [if_pos h1] at hc
  by_cases h2:waitsB g=true
  ·rw [if_pos h2] at hc;exact absurd hc (by decide)
  ·rw [if_neg h2] at hc
   split at hc
   ·rename_i h6;exact absurd hc h6.1
   ·split at hc
    ·exact absurd hc (by decide)
    ·rename_i h7;omega
 ·rw [if_neg h1] at hc
  exact absurd hc h1
theorem turn_ck (hc:turnC g q n=0) : -36000≤g.clk g.player-n:=by
 unfold turnC at hc
 by_cases h1:actC g n=0
 ·have h:=h1
  unfold actC at h
  split at h
  ·split at h
   ·exact absurd h (by decide)
   ·split at h
    ·rename_i h3
     rw [Bool.and_eq_true,decide_eq_true_eq] at h3
     exact h3.2
    ·exact absurd h (by decide)
  ·exact absurd h (by decide)
 ·rw [if_neg h1] at hc
  exact absurd hc h1
theorem pRack_len (hG:PyG g n) (hC:PyC g q):(pRack g q).length ≤7:=by
 have h1:=rack_len hC.rk
 rw [rack_eq hG hC,isort_length,List.length_append,List.length_take]
 unfold drawN;omega
theorem set_bd {α:Type} {L:List α} {i k:Nat} {x d:α} {P:α→Prop} (hx:P x) (h:P (L.getD k d)):P ((L.set i x).getD k d):=by
 rw [List.getD_eq_getElem?_getD,List.getElem?_set]
 rw [List.getD_eq_getElem?_getD] at h
 split
 ·split
  ·exact hx
  ·rename_i e1 e2
   subst e1
   rw [List.getElem?_eq_none (by omega)] at h
   exact h
 ·exact h
theorem set_q (hc:turnC g q n=0) (b:Bool):SetQ (p1 g q n) b:=by
 obtain⟨hG,hC⟩:=turn_of hc
 have hs:=turn_sc hc
 have hts:=tsB_ok hG.ok.ts
 have hsb:=sco_bd hts hC.vp
 have hsc:=hG.ok.sc g.player
 have hck:=hG.ok.clk g.player
 have hn:=hG.n
 have hz : ∀k:Int, -1000000≤(p1 g q n).sc k∧(p1 g q n).sc k≤1000000:=fun k=>
  set_bd (P:=fun x:Int=> -1000000≤x∧x≤1000000) (L:=g.scores) (i:=g.player.toNat) (k:=k.toNat) (x:=g.sc g.player+pScore g q) (d:=0) (by show -1000000≤g.sc g.player+scoreI g.ts g.bd q∧g.sc g.player+scoreI g.ts g.bd q≤1000000;omega) (by have:=hG.ok.sc k;unfold Gm.sc at this;omega)
 have hw : ∀k:Int, -36000≤(p1 g q n).clk k:=fun k=>
  set_bd (P:=fun x:Int=> -36000≤x) (L:=g.clocks) (i:=g.player.toNat) (k:=k.toNat) (x:=g.clk g.player-n) (d:=0) (turn_ck hc) (by have:=hG.ok.clk k;unfold Gm.clk at this;omega)
 refine⟨fun _=>⟨⟨hts,?_,?_,fun k=>?_,hw⟩,?_,fun k=>(hz k).1,fun k=>(hz k).2⟩⟩
 ·show (g.racks.set g.player.toNat (pRack g q)).length =2
  rw [List.length_set];exact hG.fa.r
 ·show (g.clocks.set g.player.toNat (g.clk g.player-n)).length =2
  rw [List.length_set];exact hG.fa.k
 ·exact set_bd (P:=fun x:List UInt8=>x.length≤7) (L:=g.racks) (i:=g.player.toNat) (k:=k.toNat) (x:=pRack g q) (d:=[]) (pRack_len hG hC) (rack_len (hG.ok.rk k))
 ·show (g.scores.set g.player.toNat (g.sc g.player+pScore g q)).length =2
  rw [List.length_set];exact hG.fa.s
theorem end_no (h:std.eqI g.rule 0=false):pEnd g q=false:=by
 unfold pEnd
 rw [show (g.rule==0)=false from h];rfl
theorem end_yes (hG:PyG g n) (h:std.eqI g.rule 0=true):std.eqS (std.get [] (std.set g.racks g.player (pRack g q)) g.player) []=pEnd g q:=by
 have hp:=in_bd hG.fa.ply
 have hr:=hG.fa.r
 unfold pEnd
 rw [show (g.rule==0)=true from h,Bool.true_and,emp_is]
 show ((g.racks.set g.player.toNat (pRack g q)).getD g.player.toNat []).isEmpty =_
 rw [List.getD_eq_getElem?_getD,List.getElem?_set_self (by omega)];rfl
theorem ss_no (h:std.eqI g.rule 0=false):setS (p1 g q n) false=pSs g q n:=by unfold pSs;rw [end_no h]
theorem ss_yes (hG:PyG g n) (h:std.eqI g.rule 0=true):setS (p1 g q n) (std.eqS (std.get [] (std.set g.racks g.player (pRack g q)) g.player) [])=pSs g q n:=by unfold pSs;rw [end_yes hG h]
theorem ov_no (h:std.eqI g.rule 0=false):ovB (p1 g q n) false=pOv g q:=by unfold pOv;rw [end_no h];rfl
theorem ov_yes (hG:PyG g n) (h:std.eqI g.rule 0=true):ovB (p1 g q n) (std.eqS (std.get [] (std.set g.racks g.player (pRack g q)) g.player) [])=pOv g q:=by unfold pOv;rw [end_yes hG h];rfl
end
end Ax
end Go.Proofs.YtpmakcfjdkaegaaGreatDoor
namespace Go.Proofs.YtpmakcfjdkaegaaGreatDoor
namespace Ax
set_option maxRecDepth 100000
set_option maxHeartbeats 2000000
theorem zS {n:Int} {s:List UInt8} (h:0≤szS n s):0≤n∧szS n s≤n∧(s.length:Int)≤n:=by
 obtain⟨h1,h2,h3⟩:=szL_le (nat1 _) h
 exact⟨h1,h2,h3 _ (List.mem_singleton.2 rfl)⟩
theorem zN {n:Int} {s:List Int} (h:0≤szN n s):0≤n∧szN n s≤n∧(s.length:Int)≤n:=by
 obtain⟨h1,h2,h3⟩:=szL_le (nat1 _) h
 exact⟨h1,h2,h3 _ (List.mem_singleton.2 rfl)⟩
theorem zP {n:Int} {q:Pl} (h:0≤szP n q):0≤n∧szP n q≤n∧(q.word.length:Int)≤n:=by
 obtain⟨h1,h2,h3⟩:=szL_le (nat1 _) h
 exact⟨h1,h2,h3 _ (List.mem_singleton.2 rfl)⟩
theorem zB {n:Int} {b:Bd} (h:0≤szB n b):0≤n∧szB n b≤n∧(b.prem.length:Int)≤n∧(b.cells.length:Int)≤n:=by
 obtain⟨h1,h2,h3⟩:=szL_le (nat2 _ _) h
 exact⟨h1,h2,h3 _ (by simp),h3 _ (by simp)⟩
theorem zW {n:Int} {ws:List (List UInt8)} (h:0≤szW n ws):0≤n∧szW n ws≤n∧(ws.length:Int)≤n∧∀k:Int,((ws.getD k.toNat []).length : Int)≤n:=by
 obtain⟨h1,h2,h3⟩:=szL_le (natW _) h
 refine⟨h1,h2,h3 _ List.mem_cons_self,fun k=>?_⟩
 rw [List.getD_eq_getElem?_getD]
 cases hk:ws[k.toNat]? with
 | none=>exact h1
 | some x=>exact h3 _ (List.mem_cons_of_mem _ (List.mem_map.2 ⟨x,List.mem_of_getElem? hk,rfl⟩))
structure TsB (n:Int) (t:TS):Prop where
 l:(t.letters.length:Int)≤n
 v:(t.values.length:Int)≤n
 c:(t.counts.length:Int)≤n
theorem zT {n:Int} {t:TS} (h:0≤szT n t):0≤n∧szT n t≤n∧TsB n t:=by
 unfold szT at h
 have h1:=zN h
 have h2:=zN h1.1
 have h3:=zS h2.1
 unfold szT
 exact⟨h3.1,by omega,by omega,by omega,by omega⟩
structure BdB (n:Int) (b:Bd):Prop where
 p:(b.prem.length:Int)≤n
 c:(b.cells.length:Int)≤n
structure WsB (n:Int) (ws:List (List UInt8)):Prop where
 l:(ws.length:Int)≤n
 w : ∀k:Int,((ws.getD k.toNat []).length : Int)≤n
structure GmB (n:Int) (g:Gm):Prop where
 ts:TsB n g.ts
 lx:WsB n g.lex
 b0:BdB n g.bd0
 bd:BdB n g.bd
 bag:(g.bag.length:Int)≤n
 rk:WsB n g.racks
 sc:(g.scores.length:Int)≤n
 ck:(g.clocks.length:Int)≤n
 wd:(g.last.play.word.length:Int)≤n
 bf:(g.last.before.length:Int)≤n
 dr:(g.last.drawn.length:Int)≤n
theorem BdB.le {n m:Int} {t:Bd} (h:BdB n t) (hm:n≤m):BdB m t:=⟨Int.le_trans h.p hm,Int.le_trans h.c hm⟩
theorem WsB.le {n m:Int} {t:List (List UInt8)} (h:WsB n t) (hm:n≤m):WsB m t:=⟨Int.le_trans h.l hm,fun k=>Int.le_trans (h.w k) hm⟩
theorem zG {n:Int} {g:Gm} (h:0≤szG n g):0≤n∧szG n g≤n∧GmB n g:=by
 unfold szG szLa at h
 have a1:=zS h
 have a2:=zS a1.1
 have a3:=zP a2.1
 have a4:=zN a3.1
 have a5:=zN a4.1
 have a6:=zW a5.1
 have a7:=zS a6.1
 have a8:=zB a7.1
 have a9:=zB (show 0≤szB (szW (szT n g.ts) g.lex) g.bd0 from a8.1)
 have b1:=zW a9.1
 have b2:=zT b1.1
 have e:szU n (gSu g)=szB (szW (szT n g.ts) g.lex) g.bd0:=rfl
 unfold szG szLa
 refine⟨b2.1,by omega,b2.2.2,WsB.le ⟨b1.2.2.1,b1.2.2.2⟩ (by omega),BdB.le ⟨a9.2.2.1,a9.2.2.2⟩ (by omega),BdB.le ⟨a8.2.2.1,a8.2.2.2⟩ (by omega),by omega,WsB.le ⟨a6.2.2.1,a6.2.2.2⟩ (by omega),by omega,by omega,by omega,by omega,by omega⟩
theorem GmB.n {n:Int} {g:Gm} (h:GmB n g) (hn:n≤1048576):GmN g:=by
 have:=h.ts.v;have:=h.ts.c;have:=h.lx.l;have:=h.rk.l;have:=h.sc;have:=h.ck
 exact⟨⟨⟨by show (g.ts.values.length:Int)≤_;omega,by show (g.ts.counts.length:Int)≤_;omega⟩,by show (g.lex.length:Int)≤_;omega⟩,by omega,by omega,by omega⟩
theorem bd_p {n:Int} {b:Bd} (h:BdB n b) (hn:n≤1048576):BdP b:=⟨by have:=h.p;omega,by have:=h.c;omega⟩
theorem ts_l {n:Int} {t:TS} (h:TsB n t) (hn:n≤1048576):TsL t:=⟨by have:=h.l;omega,by have:=h.v;omega,by have:=h.c;omega⟩
theorem bef_p {n:Int} {g:Gm} (h:GmB n g) (hn:n≤1048576):BdP g.bef:=⟨by have:=h.bd.p;show g.bd.prem.length≤_;omega,by have:=h.bf;show g.last.before.length≤_;omega⟩
theorem GmB.q {n:Int} {g:Gm} {q:Pl} (h:GmB n g) (hn:n≤1048576) (hq:(q.word.length:Int)≤n):PtP g q:=by
 have h1:=h.ts;have:=h1.v;have:=h1.c;have:=h.lx.l;have:=h.rk.l;have:=h.sc;have:=h.ck;have:=h.wd;have:=h.bag;have:=h.dr
 exact⟨⟨⟨ts_l h.ts hn,⟨by show g.lex.length≤_;omega,fun k=>by have:=h.lx.w k;show (g.lex.getD k.toNat []).length ≤_;omega⟩,bd_p h.b0 hn⟩,bd_p h.bd hn,by omega,fun k=>by have:=h.rk.w k;omega,by omega,by omega,bef_p h hn⟩,by omega,⟨by omega,by omega,by omega,by omega,by omega,by omega⟩⟩
theorem GmB.s {n:Int} {g:Gm} {q:Pl} (h:GmB n g) (hn:n≤1048576) (hq:(q.word.length:Int)≤n):StP' g q:=by
 have h1:=h.ts;have:=h1.v;have:=h1.c;have:=h.lx.l;have:=h.rk.l;have:=h.sc;have:=h.ck;have:=h.wd;have:=h.bag;have:=h.dr
 exact⟨⟨⟨ts_l h.ts hn,⟨by show g.lex.length≤_;omega,fun k=>by have:=h.lx.w (k:Int);rw [Int.toNat_natCast] at this;show (g.lex.getD k []).length ≤_;omega⟩,bd_p h.b0 hn⟩,bd_p h.bd hn,by omega,fun k=>by have:=h.rk.w k;show (g.racks.getD k.toNat []).length ≤_;omega,bef_p h hn,by omega,by omega⟩,by omega,⟨⟨by show g.ts.values.length≤_;omega,by show g.ts.counts.length≤_;omega,by show g.lex.length≤_;omega⟩,by omega,by omega,by omega⟩⟩
end Ax
end Go.Proofs.YtpmakcfjdkaegaaGreatDoor
namespace Go.Proofs.YtpmakcfjdkaegaaGreatDoor
namespace Ax
set_option maxRecDepth 100000
set_option maxHeartbeats 2000000
def canB (g:Gm):Bool:=!g.over&&(!(g.rule==0)&&g.last.kind==1)
def vWords (g:Gm):List (List UInt8):=wordsL g.bef g.last.play
def vWrong (g:Gm):List (List UInt8):=wrongL g.bef g.lex g.last.play
def vUp (g:Gm):Bool:=!(vWrong g).isEmpty
def vPts (g:Gm):Int:=if vUp g then 0-g.last.score else if g.rule=3 then 5*((vWords g).length : Int) else 0
def wBag (g:Gm):List UInt8:=g.last.drawn++g.bag
def wRest (g:Gm):List UInt8:=takeS (g.rk g.last.player) (isort g.last.drawn)
def wTil (g:Gm):List UInt8:=tilesS (placedS (flatB g.bef g.last.play) (flatP g.last.play))
def wRack (g:Gm):List UInt8:=isort (wRest g++wTil g)
def wRks (g:Gm):List (List UInt8):=g.racks.set g.last.player.toNat (wRack g)
def wSc (g:Gm):List Int:=g.scores.set g.last.player.toNat (g.sc g.last.player-g.last.score)
def wd1 (g:Gm):Gm:=⟨g.ts,g.lex,g.bd0,g.secs,g.rule,⟨g.bd.size,g.bd.prem,g.last.before⟩,wBag g,wRks g,wSc g,g.clocks,g.player,g.last.zeros+1,idleL 3 g.last.player,g.over⟩
def wEnd (g:Gm):Bool:=g.last.zeros+1==6
def wSs (g:Gm):List Int:=if wEnd g then setSc (wd1 g) else wSc g
def wOv (g:Gm):Bool:=g.over||wEnd g
def wZe (g:Gm):Int:=g.last.zeros+1
def wdG (g:Gm):Gm:=⟨g.ts,g.lex,g.bd0,g.secs,g.rule,⟨g.bd.size,g.bd.prem,g.last.before⟩,wBag g,wRks g,wSs g,g.clocks,g.player,wZe g,⟨3,g.last.player,⟨0,0,false,[]⟩,[],[],0,0⟩,wOv g⟩
def gmHw (g g':Gm):AH:=[(0,.cells (gmK g' (.osl 1) (.osl 2) (.osl 3) (.osl 7) (.osl 8) (.osl 6)) 51),(1,.own [.i .i64] g.ts.values 2),(2,.own [.i .i64] g.ts.counts 2),(3,.own [.s] g.lex 9),(4,.own [.s] g.racks 9),
 (5,.own [.i .i64] g.scores 2),(6,.own [.i .i64] g.clocks 2),(7,.own [.s] g'.racks 9),(8,.own [.i .i64] g'.scores 2)]
structure VdP (g:Gm):Prop where
 pl:PlP g.bef g.last.play
 ws:WsP g.lex
 sc : -1000000≤g.last.score∧g.last.score≤1000000
structure WdP (g:Gm):Prop where
 pl:PlP g.bef g.last.play
 r2:g.racks.length=2
 s2:g.scores.length=2
 p:0≤g.last.player∧g.last.player≤1
 rk:(g.rk g.last.player).length ≤7
 dr:g.last.drawn.length≤120
 bag:g.bag.length≤120
 sc : -1000000≤g.sc g.last.player∧g.sc g.last.player≤1000000
 so : -1000000≤g.last.score∧g.last.score≤1000000
 z:0≤g.last.zeros∧g.last.zeros≤5
 set:SetP (wd1 g)
section
variable {g:Gm}
theorem w_rest (h:WdP g):(wRest g).length ≤7:=Nat.le_trans (takeGo_sub _ _).length_le h.rk
theorem w_pl (h:WdP g):(placedS (flatB g.bef g.last.play) (flatP g.last.play)).length ≤15:=Nat.le_trans (placedS_len _ _) h.pl.on.len
theorem w_til (h:WdP g):(wTil g).length ≤15:=Nat.le_trans (Nat.le_of_eq (tilesS_len _)) (w_pl h)
theorem v_up:std.ltI 0 (std.len (vWrong g))=vUp g:=by
 unfold vUp
 show decide ((0:Int)<((vWrong g).length : Int))=_
 cases vWrong g with
 | nil=>rfl
 | cons x r=>simp
theorem v_yes (h:std.ltI 0 (std.len (vWrong g))=true):0-g.last.score=vPts g:=by
 rw [v_up] at h
 rw [vPts,if_pos h]
theorem v_five (h:std.ltI 0 (std.len (vWrong g))=false) (h2:std.eqI g.rule 3=true):5*((vWords g).length : Int)=vPts g:=by
 rw [v_up] at h
 rw [vPts,h,if_neg (by simp),if_pos (beq_iff_eq.1 h2)]
theorem v_no (h:std.ltI 0 (std.len (vWrong g))=false) (h2:std.eqI g.rule 3=false):0=vPts g:=by
 rw [v_up] at h
 rw [vPts,h,if_neg (by simp),if_neg (beq_eq_false_iff_ne.1 h2)]
theorem w_ss1 (h:std.eqI (std.add g.last.zeros 1) 6=true):setSc (wd1 g)=wSs g:=(if_pos h).symm
theorem w_ss0 (h:std.eqI (std.add g.last.zeros 1) 6=false):wSc g=wSs g:=(if_neg (by unfold wEnd;rw [show (g.last.zeros+1==6)=false from h];simp)).symm
theorem w_ov1 (h:std.eqI (std.add g.last.zeros 1) 6=true):true=wOv g:=by
 unfold wOv wEnd
 rw [show (g.last.zeros+1==6)=true from h];simp
theorem w_ov0 (h:std.eqI (std.add g.last.zeros 1) 6=false):g.over=wOv g:=by
 unfold wOv wEnd
 rw [show (g.last.zeros+1==6)=false from h];simp
end
end Ax
end Go.Proofs.YtpmakcfjdkaegaaGreatDoor
namespace Go.Proofs.YtpmakcfjdkaegaaGreatDoor
namespace Ax
set_option maxRecDepth 100000
set_option maxHeartbeats 2000000
theorem takeGo_len : ∀(a b:Str),(takeGo a b).2=[]→(takeGo a b).1.length + b.length=a.length
 | [],b,h=>by
   rw [takeGo] at h ⊢
   simp only at h ⊢
   rw [h];rfl
 | x::a,[],_=>by
   have:=takeGo_len a [] (takeGo_nil a)
   rw [takeGo]
   simp only [List.length_cons,List.length_nil] at this ⊢
   omega
 | x::a,y::b,h=>by
   rw [takeGo] at h ⊢
   by_cases hx:y=x
   ·rw [if_pos hx] at h ⊢
    have:=takeGo_len a b h
    simp only [List.length_cons]
    omega
   ·rw [if_neg hx] at h ⊢
    have:=takeGo_len a (y::b) h
    simp only [List.length_cons] at this ⊢
    omega
theorem takeS_len {a b:Str} (h:takeB a b=true):(takeS a b).length + b.length=a.length:=takeGo_len a b (List.isEmpty_iff.1 h)
def rSc (g:Gm) (k:Int):List Int:=g.scores.set g.last.player.toNat (g.sc g.last.player+k)
def rf1 (g:Gm) (k:Int):Gm:=⟨g.ts,g.lex,g.bd0,g.secs,g.rule,g.bd,g.bag,g.racks,rSc g k,g.clocks,if g.rule=2 then 1-g.player else g.player,if g.rule=2 then g.zeros+1 else g.zeros,if g.rule=2 then idleL 3 g.player else idleL 0 0,g.over⟩
def rfG (g:Gm) (k:Int):Gm:=if waitsB g then { rf1 g k with scores:=setSc (rf1 g k),over:=true } else rf1 g k
def chC (g:Gm) (n:Int):Int:=if actC g n=0 then (if canB g then 0 else 6) else actC g n
def chG (g:Gm) (n:Int):Gm:=if vUp g then wdG (clockG g n) else rfG (clockG g n) (vPts g)
section
variable {g:Gm} {n:Int}
structure ChF (g:Gm) (n:Int):Prop where
 act:std.eqI (actC g n) 0=true
 sy:SyG g n
 can:canB g=true
 ok:playOk g=true
 gm:gameB g=true
theorem chf (h:std.eqI (actC g n) 0=true) (hc:canB g=true):ChF g n:=by
 refine⟨h,syg h,hc,?_,sg h⟩
 have hg:=sg h
 unfold gameB at hg
 simp only [Bool.and_eq_true] at hg
 have hl:=hg.2.2.2.2.1
 unfold canB at hc
 simp only [Bool.and_eq_true,beq_iff_eq] at hc
 have hk:g.last.kind=1:=hc.2.2
 unfold lastOk at hl
 rw [if_neg (by omega),if_neg (by omega),if_pos hk] at hl
 exact hl
structure PkF (g:Gm):Prop where
 pl:g.last.player=1-g.player
 ok:okB g.bef g.last.play=true
 z:0≤g.last.zeros∧g.last.zeros≤5
 gz:g.zeros=0
 dr:bagB g.last.drawn=true
 tk:takeB (g.rk g.last.player) (isort g.last.drawn)=true
 fr:((g.rk g.last.player).length : Int)-g.last.drawn.length+(freshL (flatB g.bef g.last.play) (flatP g.last.play)).length ≤7
 so:g.last.score=scoreS g.ts (flatB g.bef g.last.play) (flatP g.last.play)
 s2:g.last.score≤20000
theorem pkf (h:playOk g=true):PkF g:=by
 unfold playOk at h
 simp only [Bool.and_eq_true,beq_iff_eq,decide_eq_true_eq] at h
 obtain⟨a1,a2,a3,a4,a5,a6,a7,a8,a9,a10,a11,a12⟩:=h
 exact⟨a1,a2,in_bd a3,a4,a5,a6,a9,a11,a12⟩
theorem ch_so (h:ChF g n):0≤g.last.score:=by
 have hk:=pkf h.ok
 have hts:=tsB_ok h.sy.ok.ts
 have hb:bdB g.bef=true:=by have:=hk.ok;unfold okB at this;rw [Bool.and_eq_true] at this;exact this.1
 have hv:validI g.bef g.last.play=true:=by rw [←okB_validI hb];exact hk.ok
 rw [hk.so,score_same hb hv]
 exact (Go.Proofs.YtpmakcfjdkaegaaGreatDoor.score_bd hts g.bef g.last.play (by have:=(validI_facts hv).2.2.2;omega)).1
theorem ch_vd (h:ChF g n) (hw:WsP g.lex):VdP g:=⟨okB_on (pkf h.ok).ok,hw,by have:=ch_so h;omega,by have:=(pkf h.ok).s2;omega⟩
theorem ch_ply (h:ChF g n):0≤g.last.player∧g.last.player≤1:=by
 have h1:=h.sy.fa.ply
 have h2:=(pkf h.ok).pl
 omega
theorem ch_rack (h:ChF g n):(wRack g).length ≤7:=by
 have hk:=pkf h.ok
 have h1:=takeS_len hk.tk
 rw [isort_length] at h1
 have h2:=hk.fr
 have h3:(wTil g).length =(freshL (flatB g.bef g.last.play) (flatP g.last.play)).length :=by
  unfold wTil
  rw [tilesS_len,placedS,List.length_map]
 unfold wRack
 rw [isort_length,List.length_append,h3]
 have h4:(wRest g).length =(takeS (g.rk g.last.player) (isort g.last.drawn)).length :=rfl
 omega
theorem ch_clk (h:ChF g n) (k:Int) : -36000≤(clockG g n).clk k:=
 setg_bd (P:=fun x:Int=> -36000≤x) (L:=g.clocks) (i:=g.player.toNat) (k:=k.toNat) (x:=g.clk g.player-n) (d:=0) h.sy.c (by have:=h.sy.ok.clk k;unfold Gm.clk at this;omega)
theorem ch_set1 (h:ChF g n):SetP (wd1 (clockG g n)):=by
 have hts:=tsB_ok h.sy.ok.ts
 have hso:=ch_so h
 have hs2:=(pkf h.ok).s2
 have hz : ∀k:Int, -1000000≤(wd1 (clockG g n)).sc k∧(wd1 (clockG g n)).sc k≤1000000:=fun k=>
  setg_bd (P:=fun x:Int=> -1000000≤x∧x≤1000000) (L:=g.scores) (i:=g.last.player.toNat) (k:=k.toNat) (x:=g.sc g.last.player-g.last.score) (d:=0) (by have:=h.sy.ok.sc g.last.player;show -1000000≤g.sc g.last.player-g.last.score∧g.sc g.last.player-g.last.score≤1000000;omega) (by have:=h.sy.ok.sc k;unfold Gm.sc at this;omega)
 refine⟨⟨hts,?_,?_,fun k=>?_,ch_clk h⟩,?_,fun k=>(hz k).1,fun k=>(hz k).2⟩
 ·show (g.racks.set _ _).length =2
  rw [List.length_set];exact h.sy.r2
 ·show (g.clocks.set _ _).length =2
  rw [List.length_set];exact h.sy.fa.k
 ·exact setg_bd (P:=fun x:List UInt8=>x.length≤7) (L:=g.racks) (i:=g.last.player.toNat) (k:=k.toNat) (d:=[]) (show (wRack g).length ≤7 from ch_rack h) (rack_len (h.sy.ok.rk k))
 ·show (g.scores.set _ _).length =2
  rw [List.length_set];exact h.sy.fa.s
theorem ch_wd (h:ChF g n):WdP (clockG g n):=by
 have hk:=pkf h.ok
 have hs:=h.sy.ok.sc g.last.player
 have hso:=ch_so h
 refine⟨okB_on hk.ok,h.sy.r2,h.sy.fa.s,(show 0≤g.last.player∧g.last.player≤1 from ch_ply h),rack_len (h.sy.ok.rk _),bag_len hk.dr,bag_len h.sy.ok.bag,?_,?_,hk.z,ch_set1 h⟩
 ·show -1000000≤g.sc g.last.player∧g.sc g.last.player≤1000000
  omega
 ·have:=hk.s2
  show -1000000≤g.last.score∧g.last.score≤1000000
  omega
theorem ch_pts (h:ChF g n) : -20000≤vPts g∧vPts g≤100:=by
 have h1:=ch_so h
 have h2:=(pkf h.ok).s2
 have h3:=words_n g.bef g.last.play
 have h4:=(okB_on (pkf h.ok).ok).on.len
 have h5:(vWords g).length ≤(flatP g.last.play).word.length + 1:=h3
 unfold vPts
 split
 ·omega
 ·split<;>omega
theorem ch_set2 (h:ChF g n):SetP (rf1 (clockG g n) (vPts g)):=by
 have hts:=tsB_ok h.sy.ok.ts
 have hp:=ch_pts h
 have hz : ∀k:Int, -1000000≤(rf1 (clockG g n) (vPts g)).sc k∧(rf1 (clockG g n) (vPts g)).sc k≤1000000:=fun k=>
  setg_bd (P:=fun x:Int=> -1000000≤x∧x≤1000000) (L:=g.scores) (i:=g.last.player.toNat) (k:=k.toNat) (x:=g.sc g.last.player+vPts g) (d:=0) (by have:=h.sy.ok.sc g.last.player;show -1000000≤g.sc g.last.player+vPts g∧g.sc g.last.player+vPts g≤1000000;omega) (by have:=h.sy.ok.sc k;unfold Gm.sc at this;omega)
 refine⟨⟨hts,h.sy.r2,?_,fun k=>rack_len (h.sy.ok.rk k),ch_clk h⟩,?_,fun k=>(hz k).1,fun k=>(hz k).2⟩
 ·show (g.clocks.set _ _).length =2
  rw [List.length_set];exact h.sy.fa.k
 ·show (g.scores.set _ _).length =2
  rw [List.length_set];exact h.sy.fa.s
end
end Ax
end Go.Proofs.YtpmakcfjdkaegaaGreatDoor
namespace Go.Proofs.YtpmakcfjdkaegaaGreatDoor
namespace Ax
set_option maxRecDepth 100000
set_option maxHeartbeats 2000000
theorem emp_iz (s:List UInt8):s.isEmpty=std.eqS s []:=by cases s<;>rfl
def idleG (g:Gm) (k n:Int):Gm:=⟨g.ts,g.lex,g.bd0,g.secs,g.rule,g.bd,g.bag,g.racks,g.scores,ckL g n,1-g.player,g.zeros+1,idleL k g.player,g.over⟩
def idleE (g:Gm):Bool:=waitsB g||g.zeros+1==6
def zeroG (g:Gm) (k n:Int):Gm:=if idleE g then settleG (idleG g k n) else idleG g k n
def passR (g:Gm) (n:Int):Gm:=if actC g n=0 then zeroG g 3 n else gm0
def exC (a b t:List UInt8):Int:=if bagB a&&(rackB b&&pileB t) then (if t.isEmpty then 2 else if takeB b t then (if a.length<7 then 6 else 0) else 3) else 1
def exR (a b t:List UInt8):List UInt8:=if exC a b t=0 then isort (takeS b t++a.take t.length) else []
def exB (a b t:List UInt8):List UInt8:=if exC a b t=0 then a.drop t.length++t else []
def xtC (g:Gm) (t:List UInt8) (n:Int):Int:=if pileB t then (if actC g n=0 then exC g.bag (g.rk g.player) t else actC g n) else 1
def xtG (g:Gm) (t:List UInt8):Gm:=⟨g.ts,g.lex,g.bd0,g.secs,g.rule,g.bd,exB g.bag (g.rk g.player) t,g.racks.set g.player.toNat (exR g.bag (g.rk g.player) t),g.scores,g.clocks,g.player,g.zeros,g.last,g.over⟩
def xtR (g:Gm) (t:List UInt8) (n:Int):Gm:=if xtC g t n=0 then zeroG (xtG g t) 2 n else gm0
section
variable {g:Gm} {a b t:List UInt8} {k n:Int}
structure ExF (a b t:List UInt8):Prop where
 ha:bagB a=true
 hb:rackB b=true
 ht:pileB t=true
 ne:t≠[]
 tk:takeB b t=true
 la:7≤a.length∧a.length≤120
 lb:b.length≤7
 lt:t.length≤b.length
 lr:(takeS b t).length + t.length=b.length
theorem ex_f (h:exC a b t=0):ExF a b t:=by
 unfold exC at h
 by_cases h1:(bagB a&&(rackB b&&pileB t))=true
 ·rw [if_pos h1] at h
  simp only [Bool.and_eq_true] at h1
  by_cases h2:t.isEmpty=true
  ·rw [if_pos h2] at h;exact absurd h (by decide)
  ·rw [if_neg h2] at h
   by_cases h3:takeB b t=true
   ·rw [if_pos h3] at h
    by_cases h4:a.length<7
    ·rw [if_pos h4] at h;exact absurd h (by decide)
    ·have h5:=takeS_len h3
     have h6:=rack_len h1.2.1
     exact⟨h1.1,h1.2.1,h1.2.2,by simpa using h2,h3,⟨by omega,bag_len h1.1⟩,h6,by omega,h5⟩
   ·rw [if_neg h3] at h;exact absurd h (by decide)
 ·rw [if_neg h1] at h;exact absurd h (by decide)
theorem exR_eq (h:exC a b t=0):exR a b t=isort (takeS b t++a.take t.length):=if_pos h
theorem exB_eq (h:exC a b t=0):exB a b t=a.drop t.length++t:=if_pos h
theorem exR_len (h:exC a b t=0):(exR a b t).length ≤7:=by
 have hf:=ex_f h
 have:=hf.lb;have:=hf.lr
 rw [exR_eq h,isort_length,List.length_append,List.length_take];omega
theorem exB_ne (h:exC a b t=0):(exB a b t).isEmpty =false:=by
 have hf:=ex_f h
 have h1:=hf.ne
 rw [exB_eq h]
 cases t with
 | nil=>exact absurd rfl h1
 | cons x t=>simp
theorem xt_act (h:xtC g t n=0):std.eqI (actC g n) 0=true∧pileB t=true∧exC g.bag (g.rk g.player) t=0:=by
 unfold xtC at h
 by_cases h1:pileB t=true
 ·rw [if_pos h1] at h
  by_cases h2:actC g n=0
  ·rw [if_pos h2] at h
   exact⟨by simpa using h2,h1,h⟩
  ·rw [if_neg h2] at h;exact absurd h h2
 ·rw [if_neg h1] at h;exact absurd h (by decide)
theorem xt_waits (h:exC g.bag (g.rk g.player) t=0):waitsB (xtG g t)=false∧waitsB g=false:=by
 have h1:=exB_ne h
 have h2:=(ex_f h).la
 refine⟨?_,?_⟩
 ·unfold waitsB xtG
  rw [show (exB g.bag (g.rk g.player) t).isEmpty =false from h1];rfl
 ·unfold waitsB
  cases hb:g.bag with
  | nil=>rw [hb] at h2;simp at h2
  | cons x l=>rfl
theorem xt_idle (h:exC g.bag (g.rk g.player) t=0):idleE (xtG g t)=(g.zeros+1==6):=by
 unfold idleE
 rw [(xt_waits h).1];rfl
theorem set_idle (hG:SyG g n) {r:List (List UInt8)} {b:List UInt8} (hr:r.length=2) (h7 : ∀k:Int,(r.getD k.toNat []).length ≤7):SetP (idleG ⟨g.ts,g.lex,g.bd0,g.secs,g.rule,g.bd,b,r,g.scores,g.clocks,g.player,g.zeros,g.last,g.over⟩ k n):=by
 have hz : ∀k:Int, -1000000≤g.sc k∧g.sc k≤1000000:=fun k=>by
  have:=hG.ok.sc k
  omega
 refine⟨⟨tsB_ok hG.ok.ts,hr,?_,fun k=>h7 k,fun k=>?_⟩,hG.fa.s,fun k=>(hz k).1,fun k=>(hz k).2⟩
 ·show (g.clocks.set g.player.toNat _).length =2
  rw [List.length_set];exact hG.fa.k
 ·exact setg_bd (P:=fun x:Int=> -36000≤x) (L:=g.clocks) (i:=g.player.toNat) (k:=k.toNat) (x:=g.clk g.player-n) (d:=0) hG.c (by have:=hG.ok.clk k;unfold Gm.clk at this;omega)
theorem rk_set (h:(exR a b t).length ≤7) (hr : ∀k:Int,(g.rk k).length ≤7) (i:Nat) (k:Int):((g.racks.set i (exR a b t)).getD k.toNat []).length ≤7:=
 setg_bd (P:=fun x:List UInt8=>x.length≤7) (L:=g.racks) (i:=i) (k:=k.toNat) (d:=[]) h (hr k)
end
end Ax
end Go.Proofs.YtpmakcfjdkaegaaGreatDoor
namespace Go.Proofs.YtpmakcfjdkaegaaGreatDoor
namespace Ax
set_option maxRecDepth 100000
set_option maxHeartbeats 20000000
structure ExP (a b t:List UInt8):Prop where
 la:a.length≤274877906944
 lb:b.length≤274877906944
 lt:t.length≤274877906944
section
variable {a b t:List UInt8} {g:Gm} {k n:Int}
theorem exC_std (a b t:List UInt8):exC a b t=if bagB a&&(rackB b&&pileB t) then (if std.eqS t [] then 2 else if takeB b t then (if std.ltI (std.lenS a) 7 then 6 else 0) else 3) else 1:=by
 unfold exC
 rw [emp_iz]
 have e:(std.ltI (std.lenS a) 7=true)↔a.length<7:=by
  show decide ((a.length:Int)<7)=true↔_
  rw [decide_eq_true_eq];omega
 simp only [e]
theorem exR_no (h:exC a b t≠0) : []=exR a b t:=(if_neg h).symm
theorem exB_no (h:exC a b t≠0) : []=exB a b t:=(if_neg h).symm
theorem zn1 (he:idleE g=false) (h:waitsB g=true):False:=by unfold idleE at he;rw [h] at he;cases he
theorem zn2 (he:idleE g=false) (h:std.eqI (std.add g.zeros 1) 6=true):False:=by
 unfold idleE at he
 rw [show (g.zeros+1==6)=true from h,Bool.or_true] at he;cases he
theorem zy1 (he:idleE g=true) (h1:waitsB g=false) (h2:std.eqI (std.add g.zeros 1) 6=false):False:=by
 unfold idleE at he
 rw [h1,show (g.zeros+1==6)=false from h2] at he;cases he
end
def sp_s_ExchangeTiles (p:Pr):FSpec:=fsp (ac aS (ac aS (a1 aS))) (fun (a,b,t)=>ExP a b t) (fun (a,b,t)=>.tup [.s (exR a b t),.s (exB a b t),.i .i64 (exC a b t)])
theorem ok_s_ExchangeTiles:FOk Tryz.prog 162 (sp_s_ExchangeTiles std):=by
 refine FOk.go (c:=cx std [(85,sp_s_l17Ok std),(87,sp_s_l03Rack std),(144,sp_s_l03Pile std),(156,sp_s_l03Take std),(88,sp_s_l03Sort std)] [] 0) (cx_ok (.cons ok_s_l17Ok (.cons ok_s_l03Rack (.cons ok_s_l03Pile (.cons ok_s_l03Take (.cons ok_s_l03Sort .nil))))) .nil) mixed Tryz.func162 rfl rfl rfl (by kernel_rfl) ?_
 rintro ⟨a,b,t⟩ hp
 dsimp only at hp
 refine⟨rfl,?_⟩
 unfold sp_s_l17Ok sp_s_l03Rack sp_s_l03Pile sp_s_l03Take sp_s_l03Sort
 generalize hP:std=p
 generalize hB0:exR=B0
 generalize hB1:exB=B1
 generalize hB2:exC=B2
 generalize hB3:bagB=B3
 generalize hB4:rackB=B4
 generalize hB5:pileB=B5
 generalize hB6:takeS=B6
 generalize hB7:takeB=B7
 generalize hB8:isort=B8
 cbv
 repeat' first
  | (refine fun (_:Unit)=>?_;cbv)
  | (refine And.intro (fun h=>?_) (fun h=>?_)<;>cbv)
  | (refine And.intro ?_ ?_)
  | (refine Or.inl (fun (_:Unit)=>?_);cbv)
 all_goals subst hP hB0 hB1 hB2 hB3 hB4 hB5 hB6 hB7 hB8
 all_goals try exact fin
 all_goals try (have hc:exC a b t=0:=by rw [exC_std];simp only [*]<;>simp)
 all_goals try (have hF:=ex_f hc;have h1:=hF.la;have h2:=hF.lb;have h3:=hF.lt;have h4:=hF.lr)
 all_goals first
  | exact ltM_of hp.la
  | exact ltM_of hp.lb
  | exact ltM_of hp.lt
  | exact exR_no (by rw [exC_std];simp only [*]<;>simp)
  | exact exB_no (by rw [exC_std];simp only [*]<;>simp)
  | (rw [exC_std];simp only [*]<;>simp;done)
  | (show (t.length:Int)≤(a.length:Int);omega)
  | exact (exR_eq hc).symm
  | exact (exB_eq hc).symm
  | exact in64 (by show _≤((takeS b t).length : Int)+((a.take t.length).length : Int)∧((takeS b t).length : Int)+((a.take t.length).length : Int)≤_;rw [List.length_take];omega)
  | exact ltM_of (n:=(takeS b t++a.take t.length).length) (by rw [List.length_append,List.length_take];omega)
  | exact in64 (by show _≤((a.drop t.length).length : Int)+(t.length:Int)∧((a.drop t.length).length : Int)+(t.length:Int)≤_;rw [List.length_drop];omega)
  | skip
def plainB (q:Pl):Bool:=inR q.row 0 14&&(inR q.col 0 14&&wordB q.word)
def sp_s_l12Plain (p:Pr):FSpec:=fsp (a1 (aA aPl)) (fun q=>p.ltM (p.lenS q.word)) (fun q=>.b (plainB q))
theorem ok_s_l12Plain:FOk Tryz.prog 93 (sp_s_l12Plain std):=by
 refine FOk.go (c:=cx std [(86,sp_s_l00In std),(148,sp_s_l12Word std)] [] 0) (cx_ok (.cons ok_s_l00In (.cons ok_s_l12Word .nil)) .nil) mixed Tryz.func93 rfl rfl rfl (by kernel_rfl) ?_
 rintro q hp
 refine⟨rfl,?_⟩
 unfold sp_s_l00In sp_s_l12Word
 generalize hP:std=p
 generalize hB0:plainB=B0
 generalize hB1:wordB=B1
 generalize hB2:inR=B2
 cbv
 repeat' first
  | (refine fun (_:Unit)=>?_;cbv)
  | (refine And.intro (fun h=>?_) (fun h=>?_)<;>cbv)
  | (refine And.intro ?_ ?_)
  | (refine Or.inl (fun (_:Unit)=>?_);cbv)
 all_goals subst hP hB0 hB1 hB2
 all_goals try exact fin
 all_goals (unfold plainB;simp_all)
structure ZrP (g:Gm) (k n:Int):Prop where
 ck:CkP g n
 pl:PlyP g
 z : -10≤g.zeros∧g.zeros≤10
structure ZrN (g:Gm) (k n:Int):Prop where
 b:ZrP g k n
 e:idleE g=false
structure ZrY (g:Gm) (k n:Int):Prop where
 b:ZrP g k n
 e:idleE g=true
 s:SetP (idleG g k n)
def zPl (g:Gm):Int:=1-g.player
def zZr (g:Gm):Int:=g.zeros+1
def zSc (g:Gm) (k n:Int):List Int:=setSc (idleG g k n)
def gmHz (g g':Gm):AH:=[(0,.cells (gmK g' (.osl 1) (.osl 2) (.osl 3) (.osl 4) (.osl 7) (.osl 8)) 51),(1,.own [.i .i64] g.ts.values 2),(2,.own [.i .i64] g.ts.counts 2),(3,.own [.s] g.lex 9),(4,.own [.s] g.racks 9),
 (5,.own [.i .i64] g.scores 2),(6,.own [.i .i64] g.clocks 2),(7,.own [.i .i64] g'.scores 2),(8,.own [.i .i64] g'.clocks 2)]
def sp_s_l18Zero_n (p:Pr):MSpec:=msp (mG (ac aI (a1 aI))) (fun (g,k,n)=>ZrN g k n) (fun (g,k,n)=>.tup []) (fun (g,k,n)=>gmHk g ⟨g.ts,g.lex,g.bd0,g.secs,g.rule,g.bd,g.bag,g.racks,g.scores,ckL g n,zPl g,zZr g,⟨k,g.player,⟨0,0,false,[]⟩,[],[],0,0⟩,g.over⟩)
theorem ok_s_l18Zero_n:MOk Tryz.prog 163 (sp_s_l18Zero_n std):=by
 refine MOk.go (c:=cx std [(150,sp_s_l18Waits std)] [(160,sp_s_l18Clock std),(161,sp_s_l18Settle std)] 7) (cx_ok (.cons ok_s_l18Waits .nil) (.cons ok_s_l18Clock (.cons ok_s_l18Settle .nil))) mixed Tryz.func163 rfl rfl (by kernel_rfl) ?_
 rintro ⟨g,k,n⟩ hp
 dsimp only at hp
 refine⟨rfl,?_⟩
 unfold sp_s_l18Waits sp_s_l18Clock sp_s_l18Settle
 generalize hP:std=p
 generalize hB0:ckL=B0
 generalize hB1:waitsB=B1
 generalize hB2:setSc=B2
 generalize hB3:zPl=B3
 generalize hB4:zZr=B4
 generalize hB5:zSc=B5
 cbv
 repeat' first
  | (refine fun (_:Unit)=>?_;cbv)
  | (refine And.intro (fun h=>?_) (fun h=>?_)<;>cbv)
  | (refine And.intro ?_ ?_)
  | (refine Or.inl (fun (_:Unit)=>?_);cbv)
 all_goals subst hP hB0 hB1 hB2 hB3 hB4 hB5
 all_goals try exact fin
 all_goals try (exfalso;exact zn1 hp.e (by assumption))
 all_goals try (exfalso;exact zn2 hp.e (by assumption))
 ·exact hp.b.pl
 ·exact hp.b.ck
 ·exact in64 (by show _≤1-g.player∧1-g.player≤_;rcases hp.b.pl.ply with h | h<;>omega)
 ·exact in64 (by show _≤g.zeros+1∧g.zeros+1≤_;have:=hp.b.z;omega)
def sp_s_l18Zero_y (p:Pr):MSpec:=msp (mG (ac aI (a1 aI))) (fun (g,k,n)=>ZrY g k n) (fun (g,k,n)=>.tup []) (fun (g,k,n)=>gmHz g ⟨g.ts,g.lex,g.bd0,g.secs,g.rule,g.bd,g.bag,g.racks,zSc g k n,ckL g n,zPl g,zZr g,⟨k,g.player,⟨0,0,false,[]⟩,[],[],0,0⟩,true⟩)
theorem ok_s_l18Zero_y:MOk Tryz.prog 163 (sp_s_l18Zero_y std):=by
 refine MOk.go (c:=cx std [(150,sp_s_l18Waits std)] [(160,sp_s_l18Clock std),(161,sp_s_l18Settle std)] 7) (cx_ok (.cons ok_s_l18Waits .nil) (.cons ok_s_l18Clock (.cons ok_s_l18Settle .nil))) mixed Tryz.func163 rfl rfl (by kernel_rfl) ?_
 rintro ⟨g,k,n⟩ hp
 dsimp only at hp
 refine⟨rfl,?_⟩
 unfold sp_s_l18Waits sp_s_l18Clock sp_s_l18Settle
 generalize hP:std=p
 generalize hB0:ckL=B0
 generalize hB1:waitsB=B1
 generalize hB2:setSc=B2
 generalize hB3:zPl=B3
 generalize hB4:zZr=B4
 generalize hB5:zSc=B5
 cbv
 repeat' first
  | (refine fun (_:Unit)=>?_;cbv)
  | (refine And.intro (fun h=>?_) (fun h=>?_)<;>cbv)
  | (refine And.intro ?_ ?_)
  | (refine Or.inl (fun (_:Unit)=>?_);cbv)
 all_goals subst hP hB0 hB1 hB2 hB3 hB4 hB5
 all_goals try exact fin
 all_goals try (exfalso;exact zy1 hp.e (by assumption) (by assumption))
 all_goals try exact hp.s
 ·exact hp.b.pl
 ·exact hp.b.ck
 ·exact in64 (by show _≤1-g.player∧1-g.player≤_;rcases hp.b.pl.ply with h | h<;>omega)
 ·exact in64 (by show _≤g.zeros+1∧g.zeros+1≤_;have:=hp.b.z;omega)
end Ax
end Go.Proofs.YtpmakcfjdkaegaaGreatDoor
