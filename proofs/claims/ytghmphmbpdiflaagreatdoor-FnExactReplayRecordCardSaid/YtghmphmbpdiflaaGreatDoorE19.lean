/-
  What a turn with a play rests on: facts of a game in which an action may be done; Challenges: what is decided about a play, what follows; Challenges: facts of a game whose last play can be challenged; Turns without points: what a pass and an exchange make of a game; Turns without points, of the spec package: exchanges of tiles, the end of the turn; Plain laws: small letters of strings, letters on a board, words of a lexicon, first places of bytes; Words for rows that a call makes: append of new elements, bytes made of a string and stored into, strings made of bytes.
  Conditions: none.
-/
import Derived.Test.YtghmphmbpdiflaaGreatDoorE18
import Derived.Test.YtghmphmbpdiflaaGreatDoorE12
import Derived.Shelf.Strings.CaseAny
import Derived.Lib.Builder
import Derived.Shelf.Spec.SearchS
import Derived.Lib.Replace
import Derived.Lib.SplitLaws
import Derived.Test.YtghmphmbpdiflaaGreatDoorE02
set_option linter.unusedSimpArgs false
set_option linter.unusedVariables false
namespace Go.Proofs.YtghmphmbpdiflaaGreatDoor
namespace Ax
set_option maxRecDepth 100000
set_option maxHeartbeats 2000000
structure StP' (g:Gm) (q:Pl):Prop where
 gm:GmL g
 wd:q.word.length≤1073741824
 own:GmP g
section
variable {g:Gm} {q:Pl} {n:Int}
structure GmS' (g:Gm):Prop where
 bd:bdB g.bd=true
 ts:tsB g.ts=true
 lex:lexB g.lex=true
 bag:bagB g.bag=true
 rk : ∀k:Int,rackB (g.rk k)=true
 sc : ∀k:Int, -100000≤g.sc k∧g.sc k≤100000
 clk : ∀k:Int, -36000≤g.clk k∧g.clk k≤36000
theorem gm_s' (h:gameB g=true):GmS' g:=by
 unfold gameB shapeB setupB twoB sideB at h
 simp only [Bool.and_eq_true,decide_eq_true_eq] at h
 have hp:=in_bd h.2.1.2.2.2.1
 have hg : ∀k:Int,g.rk k=g.racks.getD 0 []∨g.rk k=g.racks.getD 1 []∨g.rk k=[]:=fun k=>by
  unfold Gm.rk
  rcases (show k.toNat=0∨k.toNat=1∨2≤k.toNat by omega) with e | e | e
  ·rw [e];exact .inl rfl
  ·rw [e];exact .inr (.inl rfl)
  ·exact .inr (.inr (by rw [List.getD_eq_getElem?_getD,List.getElem?_eq_none (by have:=h.2.1.1;omega)];rfl))
 have hr : ∀k:Int,rackB (g.rk k)=true:=fun k=>by
  rcases hg k with e | e | e<;>rw [e]
  ·exact h.2.2.1.1.1
  ·exact h.2.2.1.2.1
  ·rfl
 have s0:=in_bd h.2.2.1.1.2.1
 have s1:=in_bd h.2.2.1.2.2.1
 have k0:=in_bd h.2.2.1.1.2.2
 have k1:=in_bd h.2.2.1.2.2.2
 refine⟨h.1.2.1,h.1.1.1,h.1.1.2.1,h.1.2.2.2.2,hr,fun k=>?_,fun k=>?_⟩
 ·unfold Gm.sc
  rcases (show k.toNat=0∨k.toNat=1∨2≤k.toNat by omega) with e | e | e
  ·rw [e];exact s0
  ·rw [e];exact s1
  ·rw [List.getD_eq_getElem?_getD,List.getElem?_eq_none (by have:=h.2.1.2.1;omega)];decide
 ·unfold Gm.clk
  rcases (show k.toNat=0∨k.toNat=1∨2≤k.toNat by omega) with e | e | e
  ·rw [e];exact k0
  ·rw [e];exact k1
  ·rw [List.getD_eq_getElem?_getD,List.getElem?_eq_none (by have:=h.2.1.2.2.1;omega)];decide
structure SyG (g:Gm) (n:Int):Prop where
 fa:SaF g
 r2:g.racks.length=2
 ok:GmS' g
 c : -36000≤g.clk g.player-n
 nb:0≤n∧n≤36000
 s : -50000≤g.sc g.player∧g.sc g.player≤50000
theorem syg (h:std.eqI (actC g n) 0=true):SyG g n:=by
 have h:=eqI_t h
 unfold actC at h
 by_cases h1:gameB g=true
 ·rw [if_pos h1] at h
  by_cases h2:g.over=true
  ·rw [if_pos h2] at h;exact absurd h (by decide)
  ·rw [if_neg h2] at h
   by_cases h3:(inR n 0 36000&&decide (-36000≤g.clk g.player-n))=true
   ·rw [if_pos h3] at h
    by_cases h4:(inR (g.sc 0) (-50000) 50000&&inR (g.sc 1) (-50000) 50000)=true
    ·rw [Bool.and_eq_true] at h3 h4
     have hf:=sa_facts h1
     have hp:=hf.ply
     refine⟨hf,?_,gm_s' h1,of_decide_eq_true h3.2,in_bd h3.1,?_⟩
     ·unfold gameB twoB at h1
      simp only [Bool.and_eq_true,decide_eq_true_eq] at h1
      exact h1.2.1.1
     ·rcases (show g.player=0∨g.player=1 by omega) with e | e<;>rw [e]
      ·exact in_bd h4.1
      ·exact in_bd h4.2
    ·rw [if_neg h4] at h;exact absurd h (by decide)
   ·rw [if_neg h3] at h;exact absurd h (by decide)
 ·rw [if_neg h1] at h;exact absurd h (by decide)
structure SyC (g:Gm) (q:Pl):Prop where
 pl:PlP g.bd q
 ts:TsOk g.ts
 v:validI g.bd q=true
 w:withoutB (g.rk g.player) (tilesP (placedI g.bd q))=true
 rs:takeS (g.rk g.player) (tilesS (placedS (flatB g.bd q) (flatP q)))=restT g q
 rk:rackB (restT g q)=true
 sc:0≤scoreV g.ts g.bd q∧scoreV g.ts g.bd q≤440800000050
theorem syc (hG:SyG g n) (h:std.eqI (actC g n) 0=true) (h3:std.eqI (legalC g.bd g.lex (g.rk g.player) q) 0=true∨std.eqI (legalC g.bd g.lex (g.rk g.player) q) 9=true):SyC g q:=by
 obtain⟨h1,h2⟩:=se_val h h3
 have hts:=tsB_ok hG.ok.ts
 have hr:=hG.ok.rk g.player
 refine⟨okB_on (by rw [okB_validI hG.ok.bd];exact h1),hts,h1,h2,rest_spec hG.ok.bd hr h1 h2,(restT_ok hG.ok.bd hr h1 h2).2.2,?_⟩
 rw [sg_score h h1]
 exact Go.Proofs.YtghmphmbpdiflaaGreatDoor.score_bd hts g.bd q (by have:=(validI_facts h1).2.2.2;omega)
theorem sturn_of (hc:turnC g q n=0):std.eqI (actC g n) 0=true∧SyG g n∧SyC g q:=by
 unfold turnC at hc
 by_cases h1:actC g n=0
 ·have h:std.eqI (actC g n) 0=true:=by simpa using h1
  rw [if_pos h1] at hc
  refine⟨h,syg h,syc (syg h) h ?_⟩
  rw [sg_code h]
  by_cases h2:waitsB g=true
  ·rw [if_pos h2] at hc;exact absurd hc (by decide)
  ·rw [if_neg h2] at hc
   by_cases h3:codeI g.bd g.lex (g.rk g.player) q=0
   ·exact .inl (by simpa using h3)
   ·by_cases h4:codeI g.bd g.lex (g.rk g.player) q=9
    ·exact .inr (by simpa using h4)
    ·rw [if_pos ⟨h3,.inl h4⟩] at hc
     exact absurd hc h3
 ·rw [if_neg h1] at hc
  exact absurd hc h1
theorem waits_turn1 (hG:SyG g n):waitsB (turn1 g q n)=(isort (restT g q++g.bag.take (drawN g.bag (restT g q)))).isEmpty :=by
 have hp:=hG.fa.ply
 have hr:=hG.r2
 have e:(turn1 g q n).rk (1-(turn1 g q n).player)=isort (restT g q++g.bag.take (drawN g.bag (restT g q))):=by
  show (g.racks.set g.player.toNat (isort (restT g q++g.bag.take (drawN g.bag (restT g q))))).getD (1-(1-g.player)).toNat []=_
  rw [show (1-(1-g.player)).toNat =g.player.toNat by omega,List.getD_eq_getElem?_getD,List.getElem?_set_self (by omega)];rfl
 unfold waitsB
 rw [e]
 show ((g.bag.drop (drawN g.bag (restT g q))).isEmpty &&_)=_
 cases h:(isort (restT g q++g.bag.take (drawN g.bag (restT g q)))).isEmpty with
 | false=>simp
 | true=>rw [draw_empty h];rfl
theorem sq4 (hc:turnC g q n=0) (h:std.eqI (actC g n) 0=true) (h2:waitsB g=false) (h5:std.ltI 20000 (scoreV g.ts g.bd q)=true∨inR (g.sc g.player+scoreV g.ts g.bd q) (-50000) 50000=false):False:=by
 obtain⟨-,hG,hC⟩:=sturn_of hc
 have e:=sg_score h hC.v
 rw [e] at h5
 have hs:=hG.s
 have hc2:=hC.sc
 rw [e] at hc2
 have h1:=eqI_t h
 unfold turnC at hc
 rw [if_pos h1,if_neg (by rw [h2];simp)] at hc
 split at hc
 ·rename_i h6;exact h6.1 hc
 ·rw [if_pos (h5.imp lt_of fun h6=>by simp only [inR,Bool.and_eq_false_iff,decide_eq_false_iff_not] at h6;omega)] at hc
  exact absurd hc (by decide)
theorem sturn_sc (hc:turnC g q n=0):scoreI g.ts g.bd q≤20000:=by
 unfold turnC at hc
 by_cases h1:actC g n=0
 ·rw [if_pos h1] at hc
  by_cases h2:waitsB g=true
  ·rw [if_pos h2] at hc;exact absurd hc (by decide)
  ·rw [if_neg h2] at hc
   split at hc
   ·rename_i h6;exact absurd hc h6.1
   ·split at hc
    ·exact absurd hc (by decide)
    ·rename_i h7;omega
 ·rw [if_neg h1] at hc
  exact absurd hc h1
theorem setg_bd {α:Type} {L:List α} {i k:Nat} {x d:α} {P:α→Prop} (hx:P x) (h:P (L.getD k d)):P ((L.set i x).getD k d):=by
 rw [List.getD_eq_getElem?_getD,List.getElem?_set]
 rw [List.getD_eq_getElem?_getD] at h
 split
 ·split
  ·exact hx
  ·rename_i e1 e2
   subst e1
   rw [List.getElem?_eq_none (by omega)] at h
   exact h
 ·exact h
theorem set_turn1 (hc:turnC g q n=0):SetP (turn1 g q n):=by
 obtain⟨h,hG,hC⟩:=sturn_of hc
 have hsc:=hG.s
 have hs:=sturn_sc hc
 have hc2:=hC.sc
 rw [sg_score h hC.v] at hc2
 have hz : ∀k:Int, -1000000≤(turn1 g q n).sc k∧(turn1 g q n).sc k≤1000000:=fun k=>
  setg_bd (P:=fun x:Int=> -1000000≤x∧x≤1000000) (L:=g.scores) (i:=g.player.toNat) (k:=k.toNat) (x:=g.sc g.player+scoreI g.ts g.bd q) (d:=0) (by show -1000000≤g.sc g.player+scoreI g.ts g.bd q∧g.sc g.player+scoreI g.ts g.bd q≤1000000;omega) (by have:=hG.ok.sc k;unfold Gm.sc at this;omega)
 refine⟨⟨hC.ts,?_,?_,fun k=>?_,fun k=>?_⟩,?_,fun k=>(hz k).1,fun k=>(hz k).2⟩
 ·show (g.racks.set g.player.toNat _).length =2
  rw [List.length_set];exact hG.r2
 ·show (g.clocks.set g.player.toNat _).length =2
  rw [List.length_set];exact hG.fa.k
 ·refine setg_bd (P:=fun x:List UInt8=>x.length≤7) (L:=g.racks) (i:=g.player.toNat) (k:=k.toNat) (d:=[]) ?_ (rack_len (hG.ok.rk k))
  have h1:=rack_len hC.rk
  rw [isort_length,List.length_append,List.length_take]
  unfold drawN;omega
 ·exact setg_bd (P:=fun x:Int=> -36000≤x) (L:=g.clocks) (i:=g.player.toNat) (k:=k.toNat) (x:=g.clk g.player-n) (d:=0) hG.c (by have:=hG.ok.clk k;unfold Gm.clk at this;omega)
 ·show (g.scores.set g.player.toNat _).length =2
  rw [List.length_set];exact hG.fa.s
end
end Ax
namespace Ax
set_option maxRecDepth 100000
set_option maxHeartbeats 2000000
def canB (g:Gm):Bool:=!g.over&&(!(g.rule==0)&&g.last.kind==1)
def vWords (g:Gm):List (List UInt8):=wordsL g.bef g.last.play
def vWrong (g:Gm):List (List UInt8):=wrongL g.bef g.lex g.last.play
def vUp (g:Gm):Bool:=!(vWrong g).isEmpty
def vPts (g:Gm):Int:=if vUp g then 0-g.last.score else if g.rule=3 then 5*((vWords g).length : Int) else 0
def wBag (g:Gm):List UInt8:=g.last.drawn++g.bag
def wRest (g:Gm):List UInt8:=takeS (g.rk g.last.player) (isort g.last.drawn)
def wTil (g:Gm):List UInt8:=tilesS (placedS (flatB g.bef g.last.play) (flatP g.last.play))
def wRack (g:Gm):List UInt8:=isort (wRest g++wTil g)
def wRks (g:Gm):List (List UInt8):=g.racks.set g.last.player.toNat (wRack g)
def wSc (g:Gm):List Int:=g.scores.set g.last.player.toNat (g.sc g.last.player-g.last.score)
def wd1 (g:Gm):Gm:=⟨g.ts,g.lex,g.bd0,g.secs,g.rule,⟨g.bd.size,g.bd.prem,g.last.before⟩,wBag g,wRks g,wSc g,g.clocks,g.player,g.last.zeros+1,idleL 3 g.last.player,g.over⟩
def wEnd (g:Gm):Bool:=g.last.zeros+1==6
def wSs (g:Gm):List Int:=if wEnd g then setSc (wd1 g) else wSc g
def wOv (g:Gm):Bool:=g.over||wEnd g
def wZe (g:Gm):Int:=g.last.zeros+1
def wdG (g:Gm):Gm:=⟨g.ts,g.lex,g.bd0,g.secs,g.rule,⟨g.bd.size,g.bd.prem,g.last.before⟩,wBag g,wRks g,wSs g,g.clocks,g.player,wZe g,⟨3,g.last.player,⟨0,0,false,[]⟩,[],[],0,0⟩,wOv g⟩
def gmHw (g g':Gm):AH:=[(0,.cells (gmK g' (.osl 1) (.osl 2) (.osl 3) (.osl 7) (.osl 8) (.osl 6)) 41),(1,.own [.i .i64] g.ts.values 2),(2,.own [.i .i64] g.ts.counts 2),(3,.own [.s] g.lex 9),(4,.own [.s] g.racks 9),
 (5,.own [.i .i64] g.scores 2),(6,.own [.i .i64] g.clocks 2),(7,.own [.s] g'.racks 9),(8,.own [.i .i64] g'.scores 2)]
structure VdP (g:Gm):Prop where
 pl:PlP g.bef g.last.play
 ws:WsP g.lex
 sc : -1000000≤g.last.score∧g.last.score≤1000000
structure WdP (g:Gm):Prop where
 pl:PlP g.bef g.last.play
 r2:g.racks.length=2
 s2:g.scores.length=2
 p:0≤g.last.player∧g.last.player≤1
 rk:(g.rk g.last.player).length ≤7
 dr:g.last.drawn.length≤120
 bag:g.bag.length≤120
 sc : -1000000≤g.sc g.last.player∧g.sc g.last.player≤1000000
 so : -1000000≤g.last.score∧g.last.score≤1000000
 z:0≤g.last.zeros∧g.last.zeros≤5
 set:SetP (wd1 g)
section
variable {g:Gm}
theorem w_rest (h:WdP g):(wRest g).length ≤7:=Nat.le_trans (takeGo_sub _ _).length_le h.rk
theorem w_pl (h:WdP g):(placedS (flatB g.bef g.last.play) (flatP g.last.play)).length ≤15:=Nat.le_trans (placedS_len _ _) h.pl.on.len
theorem w_til (h:WdP g):(wTil g).length ≤15:=Nat.le_trans (Nat.le_of_eq (tilesS_len _)) (w_pl h)
theorem v_up:std.ltI 0 (std.len (vWrong g))=vUp g:=by
 unfold vUp
 show decide ((0:Int)<((vWrong g).length : Int))=_
 cases vWrong g with
 | nil=>rfl
 | cons x r=>simp
theorem v_yes (h:std.ltI 0 (std.len (vWrong g))=true):0-g.last.score=vPts g:=by
 rw [v_up] at h
 rw [vPts,if_pos h]
theorem v_five (h:std.ltI 0 (std.len (vWrong g))=false) (h2:std.eqI g.rule 3=true):5*((vWords g).length : Int)=vPts g:=by
 rw [v_up] at h
 rw [vPts,h,if_neg (by simp),if_pos (beq_iff_eq.1 h2)]
theorem v_no (h:std.ltI 0 (std.len (vWrong g))=false) (h2:std.eqI g.rule 3=false):0=vPts g:=by
 rw [v_up] at h
 rw [vPts,h,if_neg (by simp),if_neg (beq_eq_false_iff_ne.1 h2)]
theorem w_ss1 (h:std.eqI (std.add g.last.zeros 1) 6=true):setSc (wd1 g)=wSs g:=(if_pos h).symm
theorem w_ss0 (h:std.eqI (std.add g.last.zeros 1) 6=false):wSc g=wSs g:=(if_neg (by unfold wEnd;rw [show (g.last.zeros+1==6)=false from h];simp)).symm
theorem w_ov1 (h:std.eqI (std.add g.last.zeros 1) 6=true):true=wOv g:=by
 unfold wOv wEnd
 rw [show (g.last.zeros+1==6)=true from h];simp
theorem w_ov0 (h:std.eqI (std.add g.last.zeros 1) 6=false):g.over=wOv g:=by
 unfold wOv wEnd
 rw [show (g.last.zeros+1==6)=false from h];simp
end
end Ax
namespace Ax
set_option maxRecDepth 100000
set_option maxHeartbeats 2000000
theorem takeGo_len : ∀(a b:Str),(takeGo a b).2=[]→(takeGo a b).1.length + b.length=a.length
 | [],b,h=>by
   rw [takeGo] at h ⊢
   simp only at h ⊢
   rw [h];rfl
 | x::a,[],_=>by
   have:=takeGo_len a [] (takeGo_nil a)
   rw [takeGo]
   simp only [List.length_cons,List.length_nil] at this ⊢
   omega
 | x::a,y::b,h=>by
   rw [takeGo] at h ⊢
   by_cases hx:y=x
   ·rw [if_pos hx] at h ⊢
    have:=takeGo_len a b h
    simp only [List.length_cons]
    omega
   ·rw [if_neg hx] at h ⊢
    have:=takeGo_len a (y::b) h
    simp only [List.length_cons] at this ⊢
    omega
theorem takeS_len {a b:Str} (h:takeB a b=true):(takeS a b).length + b.length=a.length:=takeGo_len a b (List.isEmpty_iff.1 h)
def rSc (g:Gm) (k:Int):List Int:=g.scores.set g.last.player.toNat (g.sc g.last.player+k)
def rf1 (g:Gm) (k:Int):Gm:=⟨g.ts,g.lex,g.bd0,g.secs,g.rule,g.bd,g.bag,g.racks,rSc g k,g.clocks,if g.rule=2 then 1-g.player else g.player,if g.rule=2 then g.zeros+1 else g.zeros,if g.rule=2 then idleL 3 g.player else idleL 0 0,g.over⟩
def rfG (g:Gm) (k:Int):Gm:=if waitsB g then { rf1 g k with scores:=setSc (rf1 g k),over:=true } else rf1 g k
def chC (g:Gm) (n:Int):Int:=if actC g n=0 then (if canB g then 0 else 6) else actC g n
def chG (g:Gm) (n:Int):Gm:=if vUp g then wdG (clockG g n) else rfG (clockG g n) (vPts g)
section
variable {g:Gm} {n:Int}
structure ChF (g:Gm) (n:Int):Prop where
 act:std.eqI (actC g n) 0=true
 sy:SyG g n
 can:canB g=true
 ok:playOk g=true
 gm:gameB g=true
theorem chf (h:std.eqI (actC g n) 0=true) (hc:canB g=true):ChF g n:=by
 refine⟨h,syg h,hc,?_,sg h⟩
 have hg:=sg h
 unfold gameB at hg
 simp only [Bool.and_eq_true] at hg
 have hl:=hg.2.2.2.2.1
 unfold canB at hc
 simp only [Bool.and_eq_true,beq_iff_eq] at hc
 have hk:g.last.kind=1:=hc.2.2
 unfold lastOk at hl
 rw [if_neg (by omega),if_neg (by omega),if_pos hk] at hl
 exact hl
structure PkF (g:Gm):Prop where
 pl:g.last.player=1-g.player
 ok:okB g.bef g.last.play=true
 z:0≤g.last.zeros∧g.last.zeros≤5
 gz:g.zeros=0
 dr:bagB g.last.drawn=true
 tk:takeB (g.rk g.last.player) (isort g.last.drawn)=true
 fr:((g.rk g.last.player).length : Int)-g.last.drawn.length+(freshL (flatB g.bef g.last.play) (flatP g.last.play)).length ≤7
 so:g.last.score=scoreS g.ts (flatB g.bef g.last.play) (flatP g.last.play)
 s2:g.last.score≤20000
theorem pkf (h:playOk g=true):PkF g:=by
 unfold playOk at h
 simp only [Bool.and_eq_true,beq_iff_eq,decide_eq_true_eq] at h
 obtain⟨a1,a2,a3,a4,a5,a6,a7,a8,a9,a10,a11,a12⟩:=h
 exact⟨a1,a2,in_bd a3,a4,a5,a6,a9,a11,a12⟩
theorem ch_so (h:ChF g n):0≤g.last.score:=by
 have hk:=pkf h.ok
 have hts:=tsB_ok h.sy.ok.ts
 have hb:bdB g.bef=true:=by have:=hk.ok;unfold okB at this;rw [Bool.and_eq_true] at this;exact this.1
 have hv:validI g.bef g.last.play=true:=by rw [←okB_validI hb];exact hk.ok
 rw [hk.so,score_same hb hv]
 exact (Go.Proofs.YtghmphmbpdiflaaGreatDoor.score_bd hts g.bef g.last.play (by have:=(validI_facts hv).2.2.2;omega)).1
theorem ch_vd (h:ChF g n) (hw:WsP g.lex):VdP g:=⟨okB_on (pkf h.ok).ok,hw,by have:=ch_so h;omega,by have:=(pkf h.ok).s2;omega⟩
theorem ch_ply (h:ChF g n):0≤g.last.player∧g.last.player≤1:=by
 have h1:=h.sy.fa.ply
 have h2:=(pkf h.ok).pl
 omega
theorem ch_rack (h:ChF g n):(wRack g).length ≤7:=by
 have hk:=pkf h.ok
 have h1:=takeS_len hk.tk
 rw [isort_length] at h1
 have h2:=hk.fr
 have h3:(wTil g).length =(freshL (flatB g.bef g.last.play) (flatP g.last.play)).length :=by
  unfold wTil
  rw [tilesS_len,placedS,List.length_map]
 unfold wRack
 rw [isort_length,List.length_append,h3]
 have h4:(wRest g).length =(takeS (g.rk g.last.player) (isort g.last.drawn)).length :=rfl
 omega
theorem ch_clk (h:ChF g n) (k:Int) : -36000≤(clockG g n).clk k:=
 setg_bd (P:=fun x:Int=> -36000≤x) (L:=g.clocks) (i:=g.player.toNat) (k:=k.toNat) (x:=g.clk g.player-n) (d:=0) h.sy.c (by have:=h.sy.ok.clk k;unfold Gm.clk at this;omega)
theorem ch_set1 (h:ChF g n):SetP (wd1 (clockG g n)):=by
 have hts:=tsB_ok h.sy.ok.ts
 have hso:=ch_so h
 have hs2:=(pkf h.ok).s2
 have hz : ∀k:Int, -1000000≤(wd1 (clockG g n)).sc k∧(wd1 (clockG g n)).sc k≤1000000:=fun k=>
  setg_bd (P:=fun x:Int=> -1000000≤x∧x≤1000000) (L:=g.scores) (i:=g.last.player.toNat) (k:=k.toNat) (x:=g.sc g.last.player-g.last.score) (d:=0) (by have:=h.sy.ok.sc g.last.player;show -1000000≤g.sc g.last.player-g.last.score∧g.sc g.last.player-g.last.score≤1000000;omega) (by have:=h.sy.ok.sc k;unfold Gm.sc at this;omega)
 refine⟨⟨hts,?_,?_,fun k=>?_,ch_clk h⟩,?_,fun k=>(hz k).1,fun k=>(hz k).2⟩
 ·show (g.racks.set _ _).length =2
  rw [List.length_set];exact h.sy.r2
 ·show (g.clocks.set _ _).length =2
  rw [List.length_set];exact h.sy.fa.k
 ·exact setg_bd (P:=fun x:List UInt8=>x.length≤7) (L:=g.racks) (i:=g.last.player.toNat) (k:=k.toNat) (d:=[]) (show (wRack g).length ≤7 from ch_rack h) (rack_len (h.sy.ok.rk k))
 ·show (g.scores.set _ _).length =2
  rw [List.length_set];exact h.sy.fa.s
theorem ch_wd (h:ChF g n):WdP (clockG g n):=by
 have hk:=pkf h.ok
 have hs:=h.sy.ok.sc g.last.player
 have hso:=ch_so h
 refine⟨okB_on hk.ok,h.sy.r2,h.sy.fa.s,(show 0≤g.last.player∧g.last.player≤1 from ch_ply h),rack_len (h.sy.ok.rk _),bag_len hk.dr,bag_len h.sy.ok.bag,?_,?_,hk.z,ch_set1 h⟩
 ·show -1000000≤g.sc g.last.player∧g.sc g.last.player≤1000000
  omega
 ·have:=hk.s2
  show -1000000≤g.last.score∧g.last.score≤1000000
  omega
theorem ch_pts (h:ChF g n) : -20000≤vPts g∧vPts g≤100:=by
 have h1:=ch_so h
 have h2:=(pkf h.ok).s2
 have h3:=words_n g.bef g.last.play
 have h4:=(okB_on (pkf h.ok).ok).on.len
 have h5:(vWords g).length ≤(flatP g.last.play).word.length + 1:=h3
 unfold vPts
 split
 ·omega
 ·split<;>omega
theorem ch_set2 (h:ChF g n):SetP (rf1 (clockG g n) (vPts g)):=by
 have hts:=tsB_ok h.sy.ok.ts
 have hp:=ch_pts h
 have hz : ∀k:Int, -1000000≤(rf1 (clockG g n) (vPts g)).sc k∧(rf1 (clockG g n) (vPts g)).sc k≤1000000:=fun k=>
  setg_bd (P:=fun x:Int=> -1000000≤x∧x≤1000000) (L:=g.scores) (i:=g.last.player.toNat) (k:=k.toNat) (x:=g.sc g.last.player+vPts g) (d:=0) (by have:=h.sy.ok.sc g.last.player;show -1000000≤g.sc g.last.player+vPts g∧g.sc g.last.player+vPts g≤1000000;omega) (by have:=h.sy.ok.sc k;unfold Gm.sc at this;omega)
 refine⟨⟨hts,h.sy.r2,?_,fun k=>rack_len (h.sy.ok.rk k),ch_clk h⟩,?_,fun k=>(hz k).1,fun k=>(hz k).2⟩
 ·show (g.clocks.set _ _).length =2
  rw [List.length_set];exact h.sy.fa.k
 ·show (g.scores.set _ _).length =2
  rw [List.length_set];exact h.sy.fa.s
end
end Ax
namespace Ax
set_option maxRecDepth 100000
set_option maxHeartbeats 2000000
theorem emp_iz (s:List UInt8):s.isEmpty=std.eqS s []:=by cases s<;>rfl
def idleG (g:Gm) (k n:Int):Gm:=⟨g.ts,g.lex,g.bd0,g.secs,g.rule,g.bd,g.bag,g.racks,g.scores,ckL g n,1-g.player,g.zeros+1,idleL k g.player,g.over⟩
def idleE (g:Gm):Bool:=waitsB g||g.zeros+1==6
def zeroG (g:Gm) (k n:Int):Gm:=if idleE g then settleG (idleG g k n) else idleG g k n
def passR (g:Gm) (n:Int):Gm:=if actC g n=0 then zeroG g 3 n else gm0
def exC (a b t:List UInt8):Int:=if bagB a&&(rackB b&&pileB t) then (if t.isEmpty then 2 else if takeB b t then (if a.length<7 then 6 else 0) else 3) else 1
def exR (a b t:List UInt8):List UInt8:=if exC a b t=0 then isort (takeS b t++a.take t.length) else []
def exB (a b t:List UInt8):List UInt8:=if exC a b t=0 then a.drop t.length++t else []
def xtC (g:Gm) (t:List UInt8) (n:Int):Int:=if pileB t then (if actC g n=0 then exC g.bag (g.rk g.player) t else actC g n) else 1
def xtG (g:Gm) (t:List UInt8):Gm:=⟨g.ts,g.lex,g.bd0,g.secs,g.rule,g.bd,exB g.bag (g.rk g.player) t,g.racks.set g.player.toNat (exR g.bag (g.rk g.player) t),g.scores,g.clocks,g.player,g.zeros,g.last,g.over⟩
def xtR (g:Gm) (t:List UInt8) (n:Int):Gm:=if xtC g t n=0 then zeroG (xtG g t) 2 n else gm0
section
variable {g:Gm} {a b t:List UInt8} {k n:Int}
structure ExF (a b t:List UInt8):Prop where
 ha:bagB a=true
 hb:rackB b=true
 ht:pileB t=true
 ne:t≠[]
 tk:takeB b t=true
 la:7≤a.length∧a.length≤120
 lb:b.length≤7
 lt:t.length≤b.length
 lr:(takeS b t).length + t.length=b.length
theorem ex_f (h:exC a b t=0):ExF a b t:=by
 unfold exC at h
 by_cases h1:(bagB a&&(rackB b&&pileB t))=true
 ·rw [if_pos h1] at h
  simp only [Bool.and_eq_true] at h1
  by_cases h2:t.isEmpty=true
  ·rw [if_pos h2] at h;exact absurd h (by decide)
  ·rw [if_neg h2] at h
   by_cases h3:takeB b t=true
   ·rw [if_pos h3] at h
    by_cases h4:a.length<7
    ·rw [if_pos h4] at h;exact absurd h (by decide)
    ·have h5:=takeS_len h3
     have h6:=rack_len h1.2.1
     exact⟨h1.1,h1.2.1,h1.2.2,by simpa using h2,h3,⟨by omega,bag_len h1.1⟩,h6,by omega,h5⟩
   ·rw [if_neg h3] at h;exact absurd h (by decide)
 ·rw [if_neg h1] at h;exact absurd h (by decide)
theorem exR_eq (h:exC a b t=0):exR a b t=isort (takeS b t++a.take t.length):=if_pos h
theorem exB_eq (h:exC a b t=0):exB a b t=a.drop t.length++t:=if_pos h
theorem exR_len (h:exC a b t=0):(exR a b t).length ≤7:=by
 have hf:=ex_f h
 have:=hf.lb;have:=hf.lr
 rw [exR_eq h,isort_length,List.length_append,List.length_take];omega
theorem exB_ne (h:exC a b t=0):(exB a b t).isEmpty =false:=by
 have hf:=ex_f h
 have h1:=hf.ne
 rw [exB_eq h]
 cases t with
 | nil=>exact absurd rfl h1
 | cons x t=>simp
theorem exB_len (h:exC a b t=0):(exB a b t).length =a.length:=by
 have hf:=ex_f h
 have:=hf.la;have:=hf.lt;have:=hf.lb
 rw [exB_eq h,List.length_append,List.length_drop];omega
theorem xt_act (h:xtC g t n=0):std.eqI (actC g n) 0=true∧pileB t=true∧exC g.bag (g.rk g.player) t=0:=by
 unfold xtC at h
 by_cases h1:pileB t=true
 ·rw [if_pos h1] at h
  by_cases h2:actC g n=0
  ·rw [if_pos h2] at h
   exact⟨by simpa using h2,h1,h⟩
  ·rw [if_neg h2] at h;exact absurd h h2
 ·rw [if_neg h1] at h;exact absurd h (by decide)
theorem xt_waits (h:exC g.bag (g.rk g.player) t=0):waitsB (xtG g t)=false∧waitsB g=false:=by
 have h1:=exB_ne h
 have h2:=(ex_f h).la
 refine⟨?_,?_⟩
 ·unfold waitsB xtG
  rw [show (exB g.bag (g.rk g.player) t).isEmpty =false from h1];rfl
 ·unfold waitsB
  cases hb:g.bag with
  | nil=>rw [hb] at h2;simp at h2
  | cons x l=>rfl
theorem xt_idle (h:exC g.bag (g.rk g.player) t=0):idleE (xtG g t)=(g.zeros+1==6):=by
 unfold idleE
 rw [(xt_waits h).1];rfl
theorem set_idle (hG:SyG g n) {r:List (List UInt8)} {b:List UInt8} (hr:r.length=2) (h7 : ∀k:Int,(r.getD k.toNat []).length ≤7):SetP (idleG ⟨g.ts,g.lex,g.bd0,g.secs,g.rule,g.bd,b,r,g.scores,g.clocks,g.player,g.zeros,g.last,g.over⟩ k n):=by
 have hz : ∀k:Int, -1000000≤g.sc k∧g.sc k≤1000000:=fun k=>by
  have:=hG.ok.sc k
  omega
 refine⟨⟨tsB_ok hG.ok.ts,hr,?_,fun k=>h7 k,fun k=>?_⟩,hG.fa.s,fun k=>(hz k).1,fun k=>(hz k).2⟩
 ·show (g.clocks.set g.player.toNat _).length =2
  rw [List.length_set];exact hG.fa.k
 ·exact setg_bd (P:=fun x:Int=> -36000≤x) (L:=g.clocks) (i:=g.player.toNat) (k:=k.toNat) (x:=g.clk g.player-n) (d:=0) hG.c (by have:=hG.ok.clk k;unfold Gm.clk at this;omega)
theorem rk_set (h:(exR a b t).length ≤7) (hr : ∀k:Int,(g.rk k).length ≤7) (i:Nat) (k:Int):((g.racks.set i (exR a b t)).getD k.toNat []).length ≤7:=
 setg_bd (P:=fun x:List UInt8=>x.length≤7) (L:=g.racks) (i:=i) (k:=k.toNat) (d:=[]) h (hr k)
end
end Ax
namespace Ax
set_option maxRecDepth 100000
set_option maxHeartbeats 20000000
structure ExP (a b t:List UInt8):Prop where
 la:a.length≤274877906944
 lb:b.length≤274877906944
 lt:t.length≤274877906944
section
variable {a b t:List UInt8} {g:Gm} {k n:Int}
theorem exC_std (a b t:List UInt8):exC a b t=if bagB a&&(rackB b&&pileB t) then (if std.eqS t [] then 2 else if takeB b t then (if std.ltI (std.lenS a) 7 then 6 else 0) else 3) else 1:=by
 unfold exC
 rw [emp_iz]
 have e:(std.ltI (std.lenS a) 7=true)↔a.length<7:=by
  show decide ((a.length:Int)<7)=true↔_
  rw [decide_eq_true_eq];omega
 simp only [e]
theorem exR_no (h:exC a b t≠0) : []=exR a b t:=(if_neg h).symm
theorem exB_no (h:exC a b t≠0) : []=exB a b t:=(if_neg h).symm
theorem zn1 (he:idleE g=false) (h:waitsB g=true):False:=by unfold idleE at he;rw [h] at he;cases he
theorem zn2 (he:idleE g=false) (h:std.eqI (std.add g.zeros 1) 6=true):False:=by
 unfold idleE at he
 rw [show (g.zeros+1==6)=true from h,Bool.or_true] at he;cases he
theorem zy1 (he:idleE g=true) (h1:waitsB g=false) (h2:std.eqI (std.add g.zeros 1) 6=false):False:=by
 unfold idleE at he
 rw [h1,show (g.zeros+1==6)=false from h2] at he;cases he
end
def sp_s_ExchangeTiles (p:Pr):FSpec:=fsp (ac aS (ac aS (a1 aS))) (fun (a,b,t)=>ExP a b t) (fun (a,b,t)=>.tup [.s (exR a b t),.s (exB a b t),.i .i64 (exC a b t)])
theorem ok_s_ExchangeTiles:FOk Tryz.prog 96 (sp_s_ExchangeTiles std):=by
 refine FOk.go (c:=cx std [(62,sp_s_l17Ok std),(157,sp_s_l03Rack std),(95,sp_s_l03Pile std),(171,sp_s_l03Take std),(63,sp_s_l03Sort std)] [] 0) (cx_ok (.cons ok_s_l17Ok (.cons ok_s_l03Rack (.cons ok_s_l03Pile (.cons ok_s_l03Take (.cons ok_s_l03Sort .nil))))) .nil) mixed Tryz.func96 rfl rfl rfl (by kernel_rfl) ?_
 rintro ⟨a,b,t⟩ hp
 dsimp only at hp
 refine⟨rfl,?_⟩
 unfold sp_s_l17Ok sp_s_l03Rack sp_s_l03Pile sp_s_l03Take sp_s_l03Sort
 generalize hP:std=p,hB0:exR=B0,hB1:exB=B1,hB2:exC=B2,hB3:bagB=B3,hB4:rackB=B4,hB5:pileB=B5,hB6:takeS=B6,hB7:takeB=B7,hB8:isort=B8
 cbv
 repeat' first
  | (refine fun (_:Unit)=>?_;cbv)
  | (refine aI2 (fun h=>?_) (fun h=>?_)<;>cbv)
  | (refine aI2 ?_ ?_)
  | (refine Or.inl (fun (_:Unit)=>?_);cbv)
 all_goals subst hP hB0 hB1 hB2 hB3 hB4 hB5 hB6 hB7 hB8
 all_goals try exact fin
 all_goals try (have hc:exC a b t=0:=by rw [exC_std];simp only [*]<;>simp)
 all_goals try (have hF:=ex_f hc;have h1:=hF.la;have h2:=hF.lb;have h3:=hF.lt;have h4:=hF.lr)
 all_goals first
  | exact ltM_of hp.la
  | exact ltM_of hp.lb
  | exact ltM_of hp.lt
  | exact exR_no (by rw [exC_std];simp only [*]<;>simp)
  | exact exB_no (by rw [exC_std];simp only [*]<;>simp)
  | (rw [exC_std];simp only [*]<;>simp;done)
  | (show (t.length:Int)≤(a.length:Int);omega)
  | exact (exR_eq hc).symm
  | exact (exB_eq hc).symm
  | exact in64 (by show _≤((takeS b t).length : Int)+((a.take t.length).length : Int)∧((takeS b t).length : Int)+((a.take t.length).length : Int)≤_;rw [List.length_take];omega)
  | exact ltM_of (n:=(takeS b t++a.take t.length).length) (by rw [List.length_append,List.length_take];omega)
  | exact in64 (by show _≤((a.drop t.length).length : Int)+(t.length:Int)∧((a.drop t.length).length : Int)+(t.length:Int)≤_;rw [List.length_drop];omega)
  | skip
def plainB (q:Pl):Bool:=inR q.row 0 14&&(inR q.col 0 14&&wordB q.word)
def sp_s_l12Plain (p:Pr):FSpec:=fsp (a1 (aA aPl)) (fun q=>p.ltM (p.lenS q.word)) (fun q=>.b (plainB q))
theorem ok_s_l12Plain:FOk Tryz.prog 261 (sp_s_l12Plain std):=by
 refine FOk.go (c:=cx std [(78,sp_s_l00In std),(289,sp_s_l12Word std)] [] 0) (cx_ok (.cons ok_s_l00In (.cons ok_s_l12Word .nil)) .nil) mixed Tryz.func261 rfl rfl rfl (by kernel_rfl) ?_
 rintro q hp
 refine⟨rfl,?_⟩
 unfold sp_s_l00In sp_s_l12Word
 generalize hP:std=p,hB0:plainB=B0,hB1:wordB=B1,hB2:inR=B2
 cbv
 repeat' first
  | (refine fun (_:Unit)=>?_;cbv)
  | (refine aI2 (fun h=>?_) (fun h=>?_)<;>cbv)
  | (refine aI2 ?_ ?_)
  | (refine Or.inl (fun (_:Unit)=>?_);cbv)
 all_goals subst hP hB0 hB1 hB2
 all_goals try exact fin
 all_goals (unfold plainB;simp_all)
structure ZrP (g:Gm) (k n:Int):Prop where
 ck:CkP g n
 pl:PlyP g
 z : -10≤g.zeros∧g.zeros≤10
structure ZrN (g:Gm) (k n:Int):Prop where
 b:ZrP g k n
 e:idleE g=false
structure ZrY (g:Gm) (k n:Int):Prop where
 b:ZrP g k n
 e:idleE g=true
 s:SetP (idleG g k n)
def zPl (g:Gm):Int:=1-g.player
def zZr (g:Gm):Int:=g.zeros+1
def zSc (g:Gm) (k n:Int):List Int:=setSc (idleG g k n)
def gmHz (g g':Gm):AH:=[(0,.cells (gmK g' (.osl 1) (.osl 2) (.osl 3) (.osl 4) (.osl 7) (.osl 8)) 41),(1,.own [.i .i64] g.ts.values 2),(2,.own [.i .i64] g.ts.counts 2),(3,.own [.s] g.lex 9),(4,.own [.s] g.racks 9),
 (5,.own [.i .i64] g.scores 2),(6,.own [.i .i64] g.clocks 2),(7,.own [.i .i64] g'.scores 2),(8,.own [.i .i64] g'.clocks 2)]
def sp_s_l18Zero_n (p:Pr):MSpec:=msp (mG (ac aI (a1 aI))) (fun (g,k,n)=>ZrN g k n) (fun (g,k,n)=>.tup []) (fun (g,k,n)=>gmHk g ⟨g.ts,g.lex,g.bd0,g.secs,g.rule,g.bd,g.bag,g.racks,g.scores,ckL g n,zPl g,zZr g,⟨k,g.player,⟨0,0,false,[]⟩,[],[],0,0⟩,g.over⟩)
theorem ok_s_l18Zero_n:MOk Tryz.prog 98 (sp_s_l18Zero_n std):=by
 refine MOk.go (c:=cx std [(173,sp_s_l18Waits std)] [(174,sp_s_l18Clock std),(175,sp_s_l18Settle std)] 7) (cx_ok (.cons ok_s_l18Waits .nil) (.cons ok_s_l18Clock (.cons ok_s_l18Settle .nil))) mixed Tryz.func98 rfl rfl (by kernel_rfl) ?_
 rintro ⟨g,k,n⟩ hp
 dsimp only at hp
 refine⟨rfl,?_⟩
 unfold sp_s_l18Waits sp_s_l18Clock sp_s_l18Settle
 generalize hP:std=p,hB0:ckL=B0,hB1:waitsB=B1,hB2:setSc=B2,hB3:zPl=B3,hB4:zZr=B4,hB5:zSc=B5
 cbv
 repeat' first
  | (refine fun (_:Unit)=>?_;cbv)
  | (refine aI2 (fun h=>?_) (fun h=>?_)<;>cbv)
  | (refine aI2 ?_ ?_)
  | (refine Or.inl (fun (_:Unit)=>?_);cbv)
 all_goals subst hP hB0 hB1 hB2 hB3 hB4 hB5
 all_goals try exact fin
 all_goals try (exfalso;exact zn1 hp.e ‹_›)
 all_goals try (exfalso;exact zn2 hp.e ‹_›)
 ·exact hp.b.pl
 ·exact hp.b.ck
 ·exact in64 (by show _≤1-g.player∧1-g.player≤_;rcases hp.b.pl.ply with h | h<;>omega)
 ·exact in64 (by show _≤g.zeros+1∧g.zeros+1≤_;have:=hp.b.z;omega)
def sp_s_l18Zero_y (p:Pr):MSpec:=msp (mG (ac aI (a1 aI))) (fun (g,k,n)=>ZrY g k n) (fun (g,k,n)=>.tup []) (fun (g,k,n)=>gmHz g ⟨g.ts,g.lex,g.bd0,g.secs,g.rule,g.bd,g.bag,g.racks,zSc g k n,ckL g n,zPl g,zZr g,⟨k,g.player,⟨0,0,false,[]⟩,[],[],0,0⟩,true⟩)
theorem ok_s_l18Zero_y:MOk Tryz.prog 98 (sp_s_l18Zero_y std):=by
 refine MOk.go (c:=cx std [(173,sp_s_l18Waits std)] [(174,sp_s_l18Clock std),(175,sp_s_l18Settle std)] 7) (cx_ok (.cons ok_s_l18Waits .nil) (.cons ok_s_l18Clock (.cons ok_s_l18Settle .nil))) mixed Tryz.func98 rfl rfl (by kernel_rfl) ?_
 rintro ⟨g,k,n⟩ hp
 dsimp only at hp
 refine⟨rfl,?_⟩
 unfold sp_s_l18Waits sp_s_l18Clock sp_s_l18Settle
 generalize hP:std=p,hB0:ckL=B0,hB1:waitsB=B1,hB2:setSc=B2,hB3:zPl=B3,hB4:zZr=B4,hB5:zSc=B5
 cbv
 repeat' first
  | (refine fun (_:Unit)=>?_;cbv)
  | (refine aI2 (fun h=>?_) (fun h=>?_)<;>cbv)
  | (refine aI2 ?_ ?_)
  | (refine Or.inl (fun (_:Unit)=>?_);cbv)
 all_goals subst hP hB0 hB1 hB2 hB3 hB4 hB5
 all_goals try exact fin
 all_goals try (exfalso;exact zy1 hp.e ‹_› ‹_›)
 all_goals try exact hp.s
 ·exact hp.b.pl
 ·exact hp.b.ck
 ·exact in64 (by show _≤1-g.player∧1-g.player≤_;rcases hp.b.pl.ply with h | h<;>omega)
 ·exact in64 (by show _≤g.zeros+1∧g.zeros+1≤_;have:=hp.b.z;omega)
end Ax
end Go.Proofs.YtghmphmbpdiflaaGreatDoor
namespace Go.Proofs.YtghmphmbpdiflaaGreatDoor
open Go.RowKit
set_option maxRecDepth 100000
def asciiB (s:Str):Bool:=s.all fun c=>decide (c.toNat<128)
theorem small_low (c:UInt8):smallB (lowC c)=(smallB c||capB c):=by
 unfold lowC
 cases hc:capB c
 ·simp
 ·unfold capB at hc
  simp only [Bool.and_eq_true,decide_eq_true_eq] at hc
  simp only [if_true,Bool.or_true]
  unfold smallB
  have h1:(c+32).toNat =c.toNat+32:=by
   rw [UInt8.toNat_add]
   have : (32:UInt8).toNat =32:=rfl
   omega
  simp only [Bool.and_eq_true,decide_eq_true_eq]
  omega
theorem word_low (s:Str):isWordB (lowS s)=placedB s:=by
 unfold isWordB placedB lowS
 rw [List.length_map,List.all_map]
 have : (s.all (smallB ∘ lowC))=s.all (fun c=>smallB c||capB c):=by
  congr 1;funext c;exact small_low c
 rw [this]
theorem toLowerA_low (l:Str):Lib.toLowerA l=lowS l:=by
 unfold Lib.toLowerA lowS
 refine List.map_congr_left fun c _=>?_
 have h:Lib.isUpperB c=capB c:=by
  unfold Lib.isUpperB capB
  rw [Bool.eq_iff_iff]
  simp [UInt8.le_iff_toNat_le]
  omega
 unfold Lib.lowerB lowC
 rw [h]
theorem lettB_ascii {s:Str} (h:lettB s=true):asciiB s=true:=by
 refine List.all_eq_true.2 fun c hc=>?_
 have:=List.all_eq_true.1 h c hc
 unfold smallB capB at this
 simp only [Bool.or_eq_true,Bool.and_eq_true,decide_eq_true_eq] at this ⊢
 omega
theorem enc_small {x:Int} (h:(Lib.encodeRune x).all smallB=true):(Lib.encodeRune x).length =1:=by
 unfold Lib.encodeRune Lib.encodeRuneZ at h ⊢
 have big : ∀z:Int,192≤z→z≤255→smallB z.toNat.toUInt8=false:=fun z h0 h1=>by
  have e:z.toNat.toUInt8.toNat=z.toNat:=by
   rw [Nat.toUInt8_eq,UInt8.toNat_ofNat']
   omega
  unfold smallB
  rw [e,Bool.and_eq_false_iff]
  right
  simp only [decide_eq_false_iff_not]
  omega
 split at h
 ·rename_i h0;rw [if_pos h0];rfl
 ·rename_i h0
  split at h
  ·rename_i h1
   rw [List.map_cons,List.all_cons,big _ (by omega) (by omega)] at h
   cases h
  ·rename_i h1
   split at h
   ·rename_i h2
    rw [List.map_cons,List.all_cons,big _ (by omega) (by omega)] at h
    cases h
   ·rename_i h2
    split at h
    ·rename_i h3
     rw [List.map_cons,List.all_cons,big _ (by omega) (by omega)] at h
     cases h
    ·rw [List.map_cons,List.all_cons,big _ (by omega) (by omega)] at h
     cases h
theorem dec_high {b:UInt8} {t:Str} (h:128≤b.toNat):2≤(Lib.decodeL (b::t)).2∨(Lib.decodeL (b::t)).1=65533:=by
 unfold Lib.decodeL Utf8.decode
 have h0 : ¬((ByteArray.mk (b::t).toArray).get! (0+0)).toNat < 128:=by
  show ¬b.toNat<128
  omega
 simp only [if_neg h0]
 split
 ·split
  ·left;exact Nat.le_refl _
  ·right;rfl
 ·split
  ·split
   ·left;exact Nat.le_succ _
   ·right;rfl
  ·split
   ·split
    ·left;show 2≤4;omega
    ·right;rfl
   ·right;rfl
theorem dec_le (b:UInt8) (t:Str):(Lib.decodeL (b::t)).2≤(b::t).length :=by
 have hz:(ByteArray.mk (b::t).toArray).size =(b::t).length :=by simp [ByteArray.size]
 have h1:1≤(b::t).length :=by simp
 unfold Lib.decodeL Utf8.decode
 simp only
 split
 ·exact h1
 ·split
  ·rename_i h
   simp only [Bool.and_eq_true,decide_eq_true_eq] at h
   split
   ·show 2≤_;omega
   ·exact h1
  ·split
   ·rename_i h
    simp only [Bool.and_eq_true,decide_eq_true_eq] at h
    split
    ·show 3≤_;omega
    ·exact h1
   ·split
    ·rename_i h
     simp only [Bool.and_eq_true,decide_eq_true_eq] at h
     split
     ·show 4≤_;omega
     ·exact h1
    ·exact h1
theorem low_bad:Lib.toLowerU 65533=65533:=by decide +kernel
theorem low_len : ∀(n:Nat) (l:Str),l.length≤n→(Lib.toLowerD l).all smallB=true→(Lib.toLowerD l).length ≤l.length∧((Lib.toLowerD l).length =l.length→asciiB l=true)
 | _,[],_,_=>⟨Nat.le_refl _,fun _=>rfl⟩
 | 0,_::_,hn,_=>by simp at hn
 | n+1,b::t,hn,h=>by
   have hw:=Lib.decodeL_width (b::t)
   have hw2:=dec_le b t
   have hs:=Lib.mapD_step Lib.toLowerU (b::t) (by simp)
   have hrec:=fun k (hk:1≤k)=>low_len n ((b::t).drop k) (by rw [List.length_drop,List.length_cons];rw [List.length_cons] at hn;omega)
   unfold Lib.toLowerD at h hrec ⊢
   rw [hs,List.all_append,Bool.and_eq_true] at h
   rw [hs,List.length_append]
   obtain⟨h1,h2⟩:=h
   obtain⟨r1,r2⟩:=hrec _ hw h2
   have e1:(if 0≤Lib.toLowerU ((Lib.decodeL (b::t)).1:Int) then Lib.encodeRune (Lib.toLowerU ((Lib.decodeL (b::t)).1:Int)) else []).length ≤1:=by
    split
    ·rename_i h0
     rw [if_pos h0] at h1
     exact Nat.le_of_eq (enc_small h1)
    ·exact Nat.zero_le _
   rw [List.length_drop] at r1 r2
   refine⟨by rw [List.length_cons] at r1 hw2 ⊢;omega,fun e=>?_⟩
   have hd1:(Lib.decodeL (b::t)).2=1:=by rw [List.length_cons] at r1 e hw2;omega
   have ha:=r2 (by rw [List.length_cons] at r1 e ⊢;omega)
   rw [hd1,List.drop_succ_cons,List.drop_zero] at ha
   have hb:b.toNat<128:=by
    refine Classical.byContradiction fun hb=>?_
    rcases dec_high (t:=t) (show 128≤b.toNat by omega) with h3 | h3
    ·omega
    ·rw [h3] at h1
     have e3:Lib.toLowerU ((65533:Nat):Int)=65533:=low_bad
     rw [e3,if_pos (by decide)] at h1
     exact absurd h1 (by decide)
   unfold asciiB at ha ⊢
   rw [List.all_cons,ha,decide_eq_true hb]
   rfl
theorem placed_low (s:Str):(isWordB (Lib.toLowerD s)&&decide (s.length=(Lib.toLowerD s).length))=placedB s:=by
 by_cases ha:asciiB s=true
 ·have e:Lib.toLowerD s=lowS s:=by
   rw [Lib.toLowerD_ascii _ (fun b hb=>by simpa using List.all_eq_true.1 ha b hb)]
   exact toLowerA_low s
  rw [e,word_low]
  have : (lowS s).length =s.length:=by simp [lowS]
  rw [this,decide_eq_true rfl,Bool.and_true]
 ·have h1:(isWordB (Lib.toLowerD s)&&decide (s.length=(Lib.toLowerD s).length))=false:=by
   rw [Bool.eq_false_iff]
   intro h
   rw [Bool.and_eq_true,decide_eq_true_eq] at h
   have h2:=h.1
   unfold isWordB at h2
   rw [Bool.and_eq_true] at h2
   exact ha ((low_len _ s (Nat.le_refl _) h2.1).2 h.2.symm)
  have h2:placedB s=false:=by
   rw [Bool.eq_false_iff]
   intro h
   unfold placedB at h
   rw [Bool.and_eq_true] at h
   exact ha (lettB_ascii h.1)
  rw [h1,h2]
theorem enc_len (x:Int):(Lib.encodeRune x).length ≤4:=by
 unfold Lib.encodeRune Lib.encodeRuneZ
 rw [List.length_map]
 split
 ·simp
 ·split
  ·simp
  ·split
   ·simp
   ·split<;>simp
theorem low_4 : ∀(n:Nat) (l:Str),l.length≤n→(Lib.toLowerD l).length ≤4*l.length
 | _,[],_=>Nat.le_refl _
 | 0,_::_,hn=>by simp at hn
 | n+1,b::t,hn=>by
   have hw:=Lib.decodeL_width (b::t)
   have hs:=Lib.mapD_step Lib.toLowerU (b::t) (by simp)
   have hrec:=low_4 n ((b::t).drop (Lib.decodeL (b::t)).2) (by rw [List.length_drop,List.length_cons];rw [List.length_cons] at hn;omega)
   unfold Lib.toLowerD at hrec ⊢
   rw [hs,List.length_append]
   rw [List.length_drop] at hrec
   have e1:(if 0≤Lib.toLowerU ((Lib.decodeL (b::t)).1:Int) then Lib.encodeRune (Lib.toLowerU ((Lib.decodeL (b::t)).1:Int)) else []).length ≤4:=by
    split
    ·exact enc_len _
    ·exact Nat.zero_le _
   rw [List.length_cons] at hrec ⊢
   omega
theorem bytesLess_iff : ∀(x y:List UInt8),Op.bytesLess x y=decide (x<y)
 | [],[]=>by simp [Op.bytesLess]
 | _::_,[]=>by simp [Op.bytesLess]
 | [],_::_=>by simp [Op.bytesLess]
 | a::x,b::y=>by
   rw [Op.bytesLess,bytesLess_iff x y]
   simp only [List.cons_lt_cons_iff]
   by_cases h1:a<b<;>by_cases h2:a=b<;>by_cases h3:x<y<;>simp [h1,h2,h3]
theorem sLt_iff (a b:Str):sLt a b=true↔a<b:=by rw [sLt,bytesLess_iff];exact decide_eq_true_iff
theorem sLt_no (a b:Str):sLt a b=false↔b≤a:=by rw [sLt,bytesLess_iff,decide_eq_false_iff_not,List.not_lt]
def incB:List Str→Bool
 | []=>true
 | [_]=>true
 | a::b::r=>sLt a b&&incB (b::r)
theorem firstK_le : ∀(ws:List Str) (s:Str),firstK ws s≤ws.length
 | [],_=>Nat.le_refl _
 | x::r,s=>by
   rw [firstK]
   have:=firstK_le r s
   split<;>simp<;>omega
theorem incB_pw : ∀ws:List Str,incB ws=true→ws.Pairwise (fun a b=>a<b)
 | [],_=>.nil
 | [_],_=>by simp
 | a::b::r,h=>by
   rw [incB,Bool.and_eq_true] at h
   have ih:=incB_pw (b::r) h.2
   have hab:=(sLt_iff a b).1 h.1
   refine .cons (fun x hx=>?_) ih
   rcases List.mem_cons.1 hx with rfl | hx
   ·exact hab
   ·exact List.lt_trans hab ((List.pairwise_cons.1 ih).1 x hx)
theorem firstK_lt : ∀(ws:List Str) (s:Str) (t:Nat),t<firstK ws s→sLt (ws.getD t []) s=true
 | [],_,t,h=>absurd h (Nat.not_lt_zero t)
 | x::r,s,t,h=>by
   rw [firstK] at h
   cases hx:sLt x s<;>rw [hx] at h
   ·simp at h
   ·cases t with
    | zero=>simpa using hx
    | succ t=>simpa using firstK_lt r s t (by simp at h;omega)
theorem firstK_ge : ∀(ws:List Str) (s:Str),ws.Pairwise (fun a b=>a<b)→∀t,firstK ws s≤t→t<ws.length→sLt (ws.getD t []) s=false
 | [],_,_,t,_,h=>absurd h (Nat.not_lt_zero t)
 | x::r,s,hp,t,h,hl=>by
   rw [firstK] at h
   cases hx:sLt x s<;>rw [hx] at h
   ·cases t with
    | zero=>simpa using hx
    | succ t=>
      have hm:r.getD t []∈r:=by
       have h2:t<r.length:=by simpa using hl
       rw [List.getD_eq_getElem?_getD,List.getElem?_eq_getElem h2];exact List.getElem_mem h2
      have:=(List.pairwise_cons.1 hp).1 _ hm
      simp only [List.getD_cons_succ]
      rw [sLt_no] at hx ⊢
      exact List.le_of_lt (List.lt_of_le_of_lt hx this)
   ·cases t with
    | zero=>simp at h
    | succ t=>simpa using firstK_ge r s (List.pairwise_cons.1 hp).2 t (by simp at h;omega) (by simpa using hl)
theorem bs_hasB (ws:List Str) (s:Str) (hi:incB ws=true) :
 Lib.bsGo (fun t=>sLt (ws.getD t []) s) ws.length 0 ws.length=firstK ws s:=by
 have hg : ∀f lo hi,hi≤ws.length→Lib.bsGo (fun t=>sLt (ws.getD t []) s) f lo hi=Lib.bsGo (fun t=>decide (t<firstK ws s)) f lo hi:=by
  intro f
  induction f with
  | zero=>intros;rfl
  | succ f ih=>
    intro lo hi hle
    unfold Lib.bsGo
    by_cases h:lo<hi
    ·rw [if_pos h,if_pos h]
     have he:sLt (ws.getD ((lo+hi)/2) []) s=decide ((lo+hi)/2<firstK ws s):=by
      by_cases hk:(lo+hi)/2<firstK ws s
      ·rw [firstK_lt _ _ _ hk,decide_eq_true hk]
      ·rw [firstK_ge _ _ (incB_pw ws ‹_›) _ (by omega) (by omega),decide_eq_false hk]
     simp only [he]
     rw [ih _ _ hle,ih _ _ (by omega)]
    ·rw [if_neg h,if_neg h]
 rw [hg _ _ _ (Nat.le_refl _)]
 exact Lib.bsGo_spec _ (firstK ws s) (fun t h=>by simpa using h) (fun t h=>by simpa using h) _ _ _ (by omega) (by omega) (firstK_le ws s)
theorem replace_dots : ∀s:Str,Lib.replaceK [46] [] (Lib.count s [46]) s=s.filter fun c=>!(c==46)
 | []=>rfl
 | c::l=>by
   have ih:=replace_dots l
   by_cases hc:c=46
   ·subst hc
    rw [Lib.count_cons_eq,Nat.add_comm,Lib.replaceK_hit [46] [] _ _ 0 (by rfl)]
    simpa using ih
   ·have hf:(c::l).filter (fun c=>!(c==46))=c::l.filter (fun c=>!(c==46)):=List.filter_cons_of_pos (by simpa using hc)
    rw [Lib.count_cons_ne c 46 l hc,hf]
    cases hk:Lib.count l [46] with
    | zero=>
      rw [hk] at ih
      show c::l=_
      rw [←ih];rfl
    | succ k=>
      rw [hk] at ih
      obtain⟨i,hi⟩:=Lib.index_of_count (s:=l) (old:=[46]) (by omega)
      rw [Lib.replaceK_hit [46] [] k l i hi] at ih
      have hi2:Lib.index (c::l) [46]=((i+1:Nat):Int):=by
       rw [Lib.index]
       have hp:([46]:Str).isPrefixOf (c::l)=false:=by
        simp [List.isPrefixOf]
        exact fun h=>hc h.symm
       rw [hp,hi]
       have : ((i:Int)== -1)=false:=by rw [beq_eq_false_iff_ne];omega
       rw [this];simp
      rw [Lib.replaceK_hit [46] [] k (c::l) (i+1) hi2,←ih]
      simp
theorem replaceAll_dots (s:Str):Lib.replaceAll s [46] []=s.filter fun c=>!(c==46):=by
 unfold Lib.replaceAll Lib.replace
 rw [if_neg (by decide)]
 have : Lib.replaceNum s [46] (-1)=Lib.count s [46]:=by unfold Lib.replaceNum;rw [if_pos (.inl (by decide))]
 rw [this,replace_dots]
theorem indexByte_find : ∀(s:Str) (c:UInt8),Lib.indexByte s c=if findK s c<s.length then (findK s c:Int) else -1
 | [],_=>by simp [Lib.indexByte,findK]
 | b::l,c=>by
   have ih:=indexByte_find l c
   simp only [Lib.indexByte,findK,List.length_cons]
   by_cases h:(b==c)=true
   ·simp [h]
   ·simp only [if_neg h,ih]
    by_cases h2:findK l c<l.length
    ·have : ((findK l c:Int)== -1)=false:=by simp
     rw [if_pos h2,if_pos (show findK l c+1<l.length+1 by omega),this]
     simp
    ·rw [if_neg h2,if_neg (show ¬findK l c+1<l.length+1 by omega)]
     rfl
end Go.Proofs.YtghmphmbpdiflaaGreatDoor
namespace Go.Proofs.YtghmphmbpdiflaaGreatDoor
open Go.RowKit RegP
structure SlT (P:Program) (T E:TypeId) (z:Value) (size bytes:Nat):Prop where
 ht:P.underlying T=some (.slice E)
 hi:(P.info? E).map (fun i=>(i.zero,i.size,i.bytes))=some (some z,size,bytes)
 hz:z.cells.size=size
 pos:0<size
section
variable {P:Program} {w w0 w1 w':World} {base e size n:Nat} {v z:Value} {xs:List Value} {T bytes:Nat}
theorem wpList_app {ops:Array Oper} {rest:List Oper} {o:Oper} {a:Act} {Q:Exit→Act→World→Prop} (hT:SlT P T e z size bytes) (hgd:o.guard=none) (s x:Operand)
 (ho:o.op=.call { callee:=.builtin .append,args:=#[s,x],argTypes:=#[T,T] })
 (v:Value) (n:Nat) (xs:List Value) (hs:a.eval s=v) (base:Nat) (hown:w0.ownsRow base e size v n xs) (us:List Value) (hu:us.length=size) (h1 : ∀u∈us,u.oneCell'=true)
 (hx:a.eval x=.slice (some ⟨w0.heap.size,0,none⟩) 1 1) (hn:n+1≤1099511627776) (hby:bytes≤128) (hbase:base≤w0.heap.size)
 (h : ∀v' w',w'.ownsRow base e size v' (n+1) (xs++us)→w0.grownBy w' v.ownBlock→(v'.ownBlock=v.ownBlock∨v'.ownBlock=some (w0.heap.size+1))→wpList P ops Q rest (a.put o.dst v') w') :
 wpList P ops Q (o::rest) a (w0.alloc (.cells us.toArray e)):=by
 cases hq:P.info? e with
 | none=>have:=hT.hi;rw [hq] at this;cases this
 | some i=>
   have hii:=hT.hi
   rw [hq] at hii
   simp only [Option.map_some,Option.some.injEq,Prod.mk.injEq] at hii
   obtain⟨hz,hsz,hbt⟩:=hii
   refine wpList_append_own_at (w0.alloc (.cells us.toArray e)) hgd s x T ho base e i z size bytes hT.ht hq hz hsz hbt hT.hz hT.pos v n xs hs (hown.alloc _) ⟨w0.heap.size,0,none⟩ 1 1 us hx (by omega) ?_ h1 ?_ ?_ ?_ ?_
   ·intro j u hj
    have hadd:(⟨w0.heap.size,0,none⟩:Addr).add j=⟨w0.heap.size,j,none⟩:=by unfold Addr.add;split<;>simp_all
    rw [hadd,cell_of_row _ _ j us.toArray e (0,0) (heap_alloc_new w0 _)]
    simpa using hj
   ·unfold maxLen;omega
   ·have : (n+1)*bytes≤1099511627776*128:=Nat.mul_le_mul hn hby
    omega
   ·simp;omega
   ·intro v' w' k1 k2 _ k3
    refine h v' w' k1 ⟨k2.os,k2.tape,k2.output,?_,?_⟩ ?_
    ·have:=k2.size;simp at this;omega
    ·intro k hk hne
     rw [k2.block k (by simp;omega) hne,Below.heap_alloc w0 _ k hk]
    ·rcases k3 with k3 | k3
     ·exact .inl k3
     ·exact .inr (by simpa using k3)
theorem wpList_apps {ops:Array Oper} {rest:List Oper} {o:Oper} {a:Act} {Q:Exit→Act→World→Prop} (hT:SlT P T e z size bytes) (hgd:o.guard=none) (s x:Operand)
 (ho:o.op=.call { callee:=.builtin .append,args:=#[s,x],argTypes:=#[T,T] })
 (v:Value) (n:Nat) (xs:List Value) (hs:a.eval s=v) (base:Nat) (hown:w.ownsRow base e size v n xs) (B:Nat) (A:Option Addr) (m c:Nat) (us:List Value) (hx:a.eval x=.slice A m c) (hr:Reads w B size A m us)
 (h1 : ∀u∈us,u.oneCell'=true) (hn:n+m≤1099511627776) (hby:bytes≤128) (hbase:base≤w.heap.size)
 (h : ∀v' w',w'.ownsRow base e size v' (n+m) (xs++us)→w.grownBy w' v.ownBlock→(v'.ownBlock=v.ownBlock∨v'.ownBlock=some w.heap.size)→wpList P ops Q rest (a.put o.dst v') w') :
 wpList P ops Q (o::rest) a w:=by
 cases hq:P.info? e with
 | none=>have:=hT.hi;rw [hq] at this;cases this
 | some i=>
   have hii:=hT.hi
   rw [hq] at hii
   simp only [Option.map_some,Option.some.injEq,Prod.mk.injEq] at hii
   obtain⟨hz,hsz,hbt⟩:=hii
   have hmul:(n+m)*bytes≤140737488355328:=by
    have : (n+m)*bytes≤1099511627776*128:=Nat.mul_le_mul hn hby
    omega
   have hml:n+m≤maxLen:=by unfold maxLen;omega
   rcases A with _ | ad
   ·have hm:m=0:=by
     rcases Nat.eq_zero_or_pos m with h0 | h0
     ·exact h0
     ·obtain⟨ad,h,_⟩:=hr.2 h0
      cases h
    subst hm
    have hn':us=[]:=List.eq_nil_of_length_eq_zero (by simpa using hr.1)
    subst hn'
    have hrun:(Builtin.append_ #[T,T] o.type #[v,.slice none 0 c]).run P w=.ok v w:=by
     rcases hown.2 with ⟨rfl,rfl⟩ | ⟨g,cap,cur,rfl,_,_,hnc,_⟩
     ·simp [Builtin.append_,run_underlying hT.ht,sizeOf,typeInfo,hq,Builtin.lenOf,Builtin.firstCells]
     ·simp [Builtin.append_,run_underlying hT.ht,sizeOf,typeInfo,hq,Builtin.lenOf,Builtin.firstCells,hnc,storeCells]
    refine wpList_plain hgd fun K hK=>?_
    unfold Oper.wp execOp
    simp only [ho,resolve,invoke,builtin,Sem.run_bind,Sem.run_pure,Result.andThen_ok,List.map_toArray,List.map_cons,List.map_nil,hs,hx,hrun]
    exact hK _ _ (h v w (by simpa using hown) (World.grownBy.refl w _) (.inl rfl))
   ·have hcells : ∀j u,us[j]? =some u→w.cell? (ad.add j)=some u:=by
     intro j u hu
     rcases Nat.eq_zero_or_pos m with h0 | h0
     ·subst h0
      have hn':us=[]:=List.eq_nil_of_length_eq_zero (by simpa using hr.1)
      subst hn'
      simp at hu
     ·obtain⟨ad',h,_,hc⟩:=hr.2 h0
      injection h with h
      subst h
      exact hc j u hu
    exact wpList_append_own_at w hgd s x T ho base e i z size bytes hT.ht hq hz hsz hbt hT.hz hT.pos v n xs hs hown ad m c us hx hr.1 hcells h1 hml hmul hbase (fun v' w' k1 k2 _ k3=>h v' w' k1 k2 k3)
theorem Below.own {B:Nat} {a:World} (hb:Below B a w) (hle:B≤w.heap.size) (hown:w.ownsRow base e size v n xs) (hB:B≤base) (hg:w.grownBy w' v.ownBlock):Below B a w':=
 hb.grown hg hle (fun k hk=>Nat.le_trans hB (hown.lt k hk).1)
end
theorem own_cast {w:World} {base e size n n':Nat} {v:Value} {xs xs':List Value} (h:w.ownsRow base e size v n xs) (hx:xs=xs') (hn:n=n'):w.ownsRow base e size v n' xs':=by rw [←hn,←hx];exact h
theorem own_sl {w:World} {base e size n:Nat} {v:Value} {xs:List Value} (h:w.ownsRow base e size v n xs) : ∃A c,v=.slice A n c∧n≤c∧Reads w w.heap.size size A n xs:=by
 rcases h.2 with ⟨rfl,rfl⟩ | ⟨g,cap,cur,rfl,_,_,hc,_⟩
 ·exact⟨none,0,rfl,Nat.le_refl _,Reads.of_own h⟩
 ·exact⟨_,cap,rfl,hc,Reads.of_own h⟩
section
variable {w w':World} {base g:Nat} {e:TypeId} {xs:List Value}
end
end Go.Proofs.YtghmphmbpdiflaaGreatDoor
