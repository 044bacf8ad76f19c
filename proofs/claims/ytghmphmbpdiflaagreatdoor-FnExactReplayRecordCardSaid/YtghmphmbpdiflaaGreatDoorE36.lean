/-
  Facts of a turn with a play; How long things are whose size is common; Records: bags shuffled, the beginning of a game, the states that a record leads to; The laws package: whether two rows, two tile sets, two games are the same; The laws package: actions: sizes, what is handed on; Turns without points, of the impl package; What passes and exchanges answer, of the impl package.
  Conditions: none.
-/
import Derived.Test.YtghmphmbpdiflaaGreatDoorE35
import Derived.Test.YtghmphmbpdiflaaGreatDoorE19
import Derived.Test.YtghmphmbpdiflaaGreatDoorE29
import Derived.Test.YtghmphmbpdiflaaGreatDoorE28
import Derived.Test.YtghmphmbpdiflaaGreatDoorE21
import Derived.Test.YtghmphmbpdiflaaGreatDoorE20
set_option linter.unusedSimpArgs false
set_option linter.unusedVariables false
namespace Go.Proofs.YtghmphmbpdiflaaGreatDoor
namespace Ax
set_option maxRecDepth 100000
set_option maxHeartbeats 2000000
structure GcL (g:Gm):Prop where
 v:(g.ts.values.length:Int)≤1073741824
 c:(g.ts.counts.length:Int)≤1073741824
 l:(g.lex.length:Int)≤1073741824
 r:(g.racks.length:Int)≤1073741824
 s:(g.scores.length:Int)≤1073741824
 k:(g.clocks.length:Int)≤1073741824
structure PtP (g:Gm) (q:Pl):Prop where
 gm:GmQ g
 wl:(q.word.length:Int)≤1073741824
 cp:GcL g
structure PtY (g:Gm) (q:Pl) (n:Int):Prop where
 b:PtP g q
 c:turnC g q n=0
structure PtN (g:Gm) (q:Pl) (n:Int):Prop where
 b:PtP g q
 c:turnC g q n≠0
def pScore (g:Gm) (q:Pl):Int:=scoreI g.ts g.bd q
def pRack (g:Gm) (q:Pl):List UInt8:=frR g.bag (restT g q)
def pBag (g:Gm) (q:Pl):List UInt8:=frB g.bag (restT g q)
def pDrw (g:Gm) (q:Pl):List UInt8:=g.bag.take (tdI g.bag (restT g q)).toNat
def pRks (g:Gm) (q:Pl):List (List UInt8):=g.racks.set g.player.toNat (pRack g q)
def pScs (g:Gm) (q:Pl):List Int:=g.scores.set g.player.toNat (g.sc g.player+pScore g q)
def pClk (g:Gm) (n:Int):List Int:=g.clocks.set g.player.toNat (g.clk g.player-n)
def pCel (g:Gm) (q:Pl):Bd:=madeB g.bd q
def pEnd (g:Gm) (q:Pl):Bool:=g.rule==0&&(pRack g q).isEmpty
def p1 (g:Gm) (q:Pl) (n:Int):Gm:=⟨g.ts,g.lex,g.bd0,g.secs,g.rule,pCel g q,pBag g q,pRks g q,pScs g q,pClk g n,1-g.player,0,⟨1,g.player,q,g.bd.cells,pDrw g q,pScore g q,g.zeros⟩,g.over⟩
def pSs (g:Gm) (q:Pl) (n:Int):List Int:=setS (p1 g q n) (pEnd g q)
def pOv (g:Gm) (q:Pl):Bool:=ovB g (pEnd g q)
def pPl (g:Gm):Int:=1-g.player
def pG (g:Gm) (q:Pl) (n:Int):Gm:=⟨g.ts,g.lex,g.bd0,g.secs,g.rule,⟨(pCel g q).size,(pCel g q).prem,(pCel g q).cells⟩,pBag g q,pRks g q,pSs g q n,pClk g n,pPl g,0,⟨1,g.player,q,g.bd.cells,pDrw g q,pScore g q,g.zeros⟩,pOv g q⟩
section
variable {g:Gm} {q:Pl} {n:Int}
theorem pe1 (hc:turnC g q n=0) (h:std.eqI (actC g n) 0=false):False:=by
 have h1:=eqI_f h
 unfold turnC at hc
 rw [if_neg h1] at hc
 exact h1 hc
theorem pe2 (hc:turnC g q n=0) (h:std.eqI (actC g n) 0=true) (h2:waitsB g=true):False:=by
 have h1:=eqI_t h
 unfold turnC at hc
 rw [if_pos h1,if_pos h2] at hc
 exact absurd hc (by decide)
theorem pe3 (hc:turnC g q n=0) (h:std.eqI (actC g n) 0=true) (h2:waitsB g=false) (h3:std.eqI (codeI g.bd g.lex (g.rk g.player) q) 0=false) (h4:std.eqI (codeI g.bd g.lex (g.rk g.player) q) 9=false∨std.eqI g.rule 0=true):False:=by
 have h1:=eqI_t h
 have h3:=eqI_f h3
 unfold turnC at hc
 rw [if_pos h1,if_neg (by rw [h2];simp),if_pos ⟨h3,h4.imp eqI_f eqI_t⟩] at hc
 exact h3 hc
theorem pe4 (hc:turnC g q n=0) (h:std.eqI (actC g n) 0=true) (h2:waitsB g=false) (h5:std.ltI 20000 (scoreI g.ts g.bd q)=true∨std.ltI 50000 (g.sc g.player+scoreI g.ts g.bd q)=true):False:=by
 have h1:=eqI_t h
 unfold turnC at hc
 rw [if_pos h1,if_neg (by rw [h2];simp)] at hc
 split at hc
 ·rename_i h6;exact h6.1 hc
 ·rw [if_pos (h5.imp lt_of lt_of)] at hc
  exact absurd hc (by decide)
structure PyG (g:Gm) (n:Int):Prop where
 fa:GmF g
 ok:GmS' g
 n:0≤n∧n≤36000
theorem pyg (h:std.eqI (actC g n) 0=true):PyG g n:=by
 have h:=eqI_t h
 unfold actC at h
 by_cases h1:gameB g=true
 ·rw [if_pos h1] at h
  by_cases h2:g.over=true
  ·rw [if_pos h2] at h;exact absurd h (by decide)
  ·rw [if_neg h2] at h
   by_cases h3:(inR n 0 36000&&decide (-36000≤g.clk g.player-n))=true
   ·rw [Bool.and_eq_true] at h3
    exact⟨gm_facts h1,gm_s' h1,in_bd h3.1⟩
   ·rw [if_neg h3] at h;exact absurd h (by decide)
 ·rw [if_neg h1] at h;exact absurd h (by decide)
structure PyC (g:Gm) (q:Pl):Prop where
 vp:VP g.bd q
 rk:rackB (restT g q)=true
theorem pyc (hG:PyG g n) (h:std.eqI (codeI g.bd g.lex (g.rk g.player) q) 0=true∨std.eqI (codeI g.bd g.lex (g.rk g.player) q) 9=true):PyC g q:=by
 obtain⟨h1,h2⟩:=codeI_no2 (h.imp eqI_t eqI_t)
 exact⟨VP.of hG.ok.bd h1,(restT_ok hG.ok.bd (hG.ok.rk _) h1 h2).2.2⟩
theorem lex_lxp {ws:List (List UInt8)} (h:lexB ws=true):LxP ws:=by
 unfold lexB at h
 rw [Bool.and_eq_true,decide_eq_true_eq,lex_adj,Bool.and_eq_true] at h
 exact⟨by rw [inc_adj];exact h.1.1,by omega⟩
theorem sco_bd {t:TS} {b:Bd} (h:TsOk t) (hp:VP b q):0≤scoreI t b q∧scoreI t b q≤134306167810:=by
 have h1:=score_bd h hp
 unfold scoreI
 split<;>omega
theorem turn_of (hc:turnC g q n=0):PyG g n∧PyC g q:=by
 unfold turnC at hc
 by_cases h1:actC g n=0
 ·have hG:PyG g n:=pyg (by simpa using h1)
  rw [if_pos h1] at hc
  refine⟨hG,pyc hG ?_⟩
  by_cases h2:waitsB g=true
  ·rw [if_pos h2] at hc;exact absurd hc (by decide)
  ·rw [if_neg h2] at hc
   by_cases h3:codeI g.bd g.lex (g.rk g.player) q=0
   ·exact .inl (by simpa using h3)
   ·by_cases h4:codeI g.bd g.lex (g.rk g.player) q=9
    ·exact .inr (by simpa using h4)
    ·rw [if_pos ⟨h3,.inl h4⟩] at hc
     exact absurd hc h3
 ·rw [if_neg h1] at hc
  exact absurd hc h1
theorem td_nat (h:rackB (restT g q)=true):(tdI g.bag (restT g q)).toNat =drawN g.bag (restT g q):=by
 have:=rack_len h
 unfold tdI drawN;omega
theorem rack_eq (hG:PyG g n) (hC:PyC g q):pRack g q=isort (restT g q++g.bag.take (drawN g.bag (restT g q))):=by
 unfold pRack frR
 rw [hG.ok.bag,hC.rk,td_nat hC.rk]
 exact sort_pile (fr_stp hG.ok.bag hC.rk).ti
theorem turn_sc (hc:turnC g q n=0):scoreI g.ts g.bd q≤20000:=by
 unfold turnC at hc
 by_cases h1:actC g n=0
 ·rw [if_pos h1] at hc
  by_cases h2:waitsB g=true
  ·rw [if_pos h2] at hc;exact absurd hc (by decide)
  ·rw [if_neg h2] at hc
   split at hc
   ·rename_i h6;exact absurd hc h6.1
   ·split at hc
    ·exact absurd hc (by decide)
    ·rename_i h7;omega
 ·rw [if_neg h1] at hc
  exact absurd hc h1
theorem turn_ck (hc:turnC g q n=0) : -36000≤g.clk g.player-n:=by
 unfold turnC at hc
 by_cases h1:actC g n=0
 ·have h:=h1
  unfold actC at h
  split at h
  ·split at h
   ·exact absurd h (by decide)
   ·split at h
    ·rename_i h3
     rw [Bool.and_eq_true,decide_eq_true_eq] at h3
     exact h3.2
    ·exact absurd h (by decide)
  ·exact absurd h (by decide)
 ·rw [if_neg h1] at hc
  exact absurd hc h1
theorem pRack_len (hG:PyG g n) (hC:PyC g q):(pRack g q).length ≤7:=by
 have h1:=rack_len hC.rk
 rw [rack_eq hG hC,isort_length,List.length_append,List.length_take]
 unfold drawN;omega
theorem set_bd {α:Type} {L:List α} {i k:Nat} {x d:α} {P:α→Prop} (hx:P x) (h:P (L.getD k d)):P ((L.set i x).getD k d):=by
 rw [List.getD_eq_getElem?_getD,List.getElem?_set]
 rw [List.getD_eq_getElem?_getD] at h
 split
 ·split
  ·exact hx
  ·rename_i e1 e2
   subst e1
   rw [List.getElem?_eq_none (by omega)] at h
   exact h
 ·exact h
theorem set_q (hc:turnC g q n=0) (b:Bool):SetQ (p1 g q n) b:=by
 obtain⟨hG,hC⟩:=turn_of hc
 have hs:=turn_sc hc
 have hts:=tsB_ok hG.ok.ts
 have hsb:=sco_bd hts hC.vp
 have hsc:=hG.ok.sc g.player
 have hck:=hG.ok.clk g.player
 have hn:=hG.n
 have hz : ∀k:Int, -1000000≤(p1 g q n).sc k∧(p1 g q n).sc k≤1000000:=fun k=>
  set_bd (P:=fun x:Int=> -1000000≤x∧x≤1000000) (L:=g.scores) (i:=g.player.toNat) (k:=k.toNat) (x:=g.sc g.player+pScore g q) (d:=0) (by show -1000000≤g.sc g.player+scoreI g.ts g.bd q∧g.sc g.player+scoreI g.ts g.bd q≤1000000;omega) (by have:=hG.ok.sc k;unfold Gm.sc at this;omega)
 have hw : ∀k:Int, -36000≤(p1 g q n).clk k:=fun k=>
  set_bd (P:=fun x:Int=> -36000≤x) (L:=g.clocks) (i:=g.player.toNat) (k:=k.toNat) (x:=g.clk g.player-n) (d:=0) (turn_ck hc) (by have:=hG.ok.clk k;unfold Gm.clk at this;omega)
 refine⟨fun _=>⟨⟨hts,?_,?_,fun k=>?_,hw⟩,?_,fun k=>(hz k).1,fun k=>(hz k).2⟩⟩
 ·show (g.racks.set g.player.toNat (pRack g q)).length =2
  rw [List.length_set];exact hG.fa.r
 ·show (g.clocks.set g.player.toNat (g.clk g.player-n)).length =2
  rw [List.length_set];exact hG.fa.k
 ·exact set_bd (P:=fun x:List UInt8=>x.length≤7) (L:=g.racks) (i:=g.player.toNat) (k:=k.toNat) (x:=pRack g q) (d:=[]) (pRack_len hG hC) (rack_len (hG.ok.rk k))
 ·show (g.scores.set g.player.toNat (g.sc g.player+pScore g q)).length =2
  rw [List.length_set];exact hG.fa.s
theorem end_no (h:std.eqI g.rule 0=false):pEnd g q=false:=by
 unfold pEnd
 rw [show (g.rule==0)=false from h];rfl
theorem end_yes (hG:PyG g n) (h:std.eqI g.rule 0=true):std.eqS (std.get [] (std.set g.racks g.player (pRack g q)) g.player) []=pEnd g q:=by
 have hp:=in_bd hG.fa.ply
 have hr:=hG.fa.r
 unfold pEnd
 rw [show (g.rule==0)=true from h,Bool.true_and,emp_is]
 show ((g.racks.set g.player.toNat (pRack g q)).getD g.player.toNat []).isEmpty =_
 rw [List.getD_eq_getElem?_getD,List.getElem?_set_self (by omega)];rfl
theorem ss_no (h:std.eqI g.rule 0=false):setS (p1 g q n) false=pSs g q n:=by unfold pSs;rw [end_no h]
theorem ss_yes (hG:PyG g n) (h:std.eqI g.rule 0=true):setS (p1 g q n) (std.eqS (std.get [] (std.set g.racks g.player (pRack g q)) g.player) [])=pSs g q n:=by unfold pSs;rw [end_yes hG h]
theorem ov_no (h:std.eqI g.rule 0=false):ovB (p1 g q n) false=pOv g q:=by unfold pOv;rw [end_no h];rfl
theorem ov_yes (hG:PyG g n) (h:std.eqI g.rule 0=true):ovB (p1 g q n) (std.eqS (std.get [] (std.set g.racks g.player (pRack g q)) g.player) [])=pOv g q:=by unfold pOv;rw [end_yes hG h];rfl
end
end Ax
namespace Ax
set_option maxRecDepth 100000
set_option maxHeartbeats 2000000
theorem zS {n:Int} {s:List UInt8} (h:0≤szS n s):0≤n∧szS n s≤n∧(s.length:Int)≤n:=by
 obtain⟨h1,h2,h3⟩:=szL_le (nat1 _) h
 exact⟨h1,h2,h3 _ (List.mem_singleton.2 rfl)⟩
theorem zN {n:Int} {s:List Int} (h:0≤szN n s):0≤n∧szN n s≤n∧(s.length:Int)≤n:=by
 obtain⟨h1,h2,h3⟩:=szL_le (nat1 _) h
 exact⟨h1,h2,h3 _ (List.mem_singleton.2 rfl)⟩
theorem zP {n:Int} {q:Pl} (h:0≤szP n q):0≤n∧szP n q≤n∧(q.word.length:Int)≤n:=by
 obtain⟨h1,h2,h3⟩:=szL_le (nat1 _) h
 exact⟨h1,h2,h3 _ (List.mem_singleton.2 rfl)⟩
theorem zB {n:Int} {b:Bd} (h:0≤szB n b):0≤n∧szB n b≤n∧(b.prem.length:Int)≤n∧(b.cells.length:Int)≤n:=by
 obtain⟨h1,h2,h3⟩:=szL_le (nat2 _ _) h
 exact⟨h1,h2,h3 _ (by simp),h3 _ (by simp)⟩
theorem zW {n:Int} {ws:List (List UInt8)} (h:0≤szW n ws):0≤n∧szW n ws≤n∧(ws.length:Int)≤n∧∀k:Int,((ws.getD k.toNat []).length : Int)≤n:=by
 obtain⟨h1,h2,h3⟩:=szL_le (natW _) h
 refine⟨h1,h2,h3 _ List.mem_cons_self,fun k=>?_⟩
 rw [List.getD_eq_getElem?_getD]
 cases hk:ws[k.toNat]? with
 | none=>exact h1
 | some x=>exact h3 _ (List.mem_cons_of_mem _ (List.mem_map.2 ⟨x,List.mem_of_getElem? hk,rfl⟩))
structure TsB (n:Int) (t:TS):Prop where
 l:(t.letters.length:Int)≤n
 v:(t.values.length:Int)≤n
 c:(t.counts.length:Int)≤n
theorem zT {n:Int} {t:TS} (h:0≤szT n t):0≤n∧szT n t≤n∧TsB n t:=by
 unfold szT at h
 have h1:=zN h
 have h2:=zN h1.1
 have h3:=zS h2.1
 unfold szT
 exact⟨h3.1,by omega,by omega,by omega,by omega⟩
structure BdB (n:Int) (b:Bd):Prop where
 p:(b.prem.length:Int)≤n
 c:(b.cells.length:Int)≤n
structure WsB (n:Int) (ws:List (List UInt8)):Prop where
 l:(ws.length:Int)≤n
 w : ∀k:Int,((ws.getD k.toNat []).length : Int)≤n
structure GmB (n:Int) (g:Gm):Prop where
 ts:TsB n g.ts
 lx:WsB n g.lex
 b0:BdB n g.bd0
 bd:BdB n g.bd
 bag:(g.bag.length:Int)≤n
 rk:WsB n g.racks
 sc:(g.scores.length:Int)≤n
 ck:(g.clocks.length:Int)≤n
 wd:(g.last.play.word.length:Int)≤n
 bf:(g.last.before.length:Int)≤n
 dr:(g.last.drawn.length:Int)≤n
theorem TsB.le {n m:Int} {t:TS} (h:TsB n t) (hm:n≤m):TsB m t:=⟨Int.le_trans h.l hm,Int.le_trans h.v hm,Int.le_trans h.c hm⟩
theorem BdB.le {n m:Int} {t:Bd} (h:BdB n t) (hm:n≤m):BdB m t:=⟨Int.le_trans h.p hm,Int.le_trans h.c hm⟩
theorem WsB.le {n m:Int} {t:List (List UInt8)} (h:WsB n t) (hm:n≤m):WsB m t:=⟨Int.le_trans h.l hm,fun k=>Int.le_trans (h.w k) hm⟩
theorem GmB.n {n:Int} {g:Gm} (h:GmB n g) (hn:n≤1048576):GmN g:=by
 have:=h.ts.v;have:=h.ts.c;have:=h.lx.l;have:=h.rk.l;have:=h.sc;have:=h.ck
 exact⟨⟨⟨by show (g.ts.values.length:Int)≤_;omega,by show (g.ts.counts.length:Int)≤_;omega⟩,by show (g.lex.length:Int)≤_;omega⟩,by omega,by omega,by omega⟩
theorem bd_p {n:Int} {b:Bd} (h:BdB n b) (hn:n≤1048576):BdP b:=⟨by have:=h.p;omega,by have:=h.c;omega⟩
theorem ts_l {n:Int} {t:TS} (h:TsB n t) (hn:n≤1048576):TsL t:=⟨by have:=h.l;omega,by have:=h.v;omega,by have:=h.c;omega⟩
theorem bef_p {n:Int} {g:Gm} (h:GmB n g) (hn:n≤1048576):BdP g.bef:=⟨by have:=h.bd.p;show g.bd.prem.length≤_;omega,by have:=h.bf;show g.last.before.length≤_;omega⟩
theorem GmB.q {n:Int} {g:Gm} {q:Pl} (h:GmB n g) (hn:n≤1048576) (hq:(q.word.length:Int)≤n):PtP g q:=by
 have h1:=h.ts;have:=h1.v;have:=h1.c;have:=h.lx.l;have:=h.rk.l;have:=h.sc;have:=h.ck;have:=h.wd;have:=h.bag;have:=h.dr
 exact⟨⟨⟨ts_l h.ts hn,⟨by show g.lex.length≤_;omega,fun k=>by have:=h.lx.w k;show (g.lex.getD k.toNat []).length ≤_;omega⟩,bd_p h.b0 hn⟩,bd_p h.bd hn,by omega,fun k=>by have:=h.rk.w k;omega,by omega,by omega,bef_p h hn⟩,by omega,⟨by omega,by omega,by omega,by omega,by omega,by omega⟩⟩
theorem GmB.s {n:Int} {g:Gm} {q:Pl} (h:GmB n g) (hn:n≤1048576) (hq:(q.word.length:Int)≤n):StP' g q:=by
 have h1:=h.ts;have:=h1.v;have:=h1.c;have:=h.lx.l;have:=h.rk.l;have:=h.sc;have:=h.ck;have:=h.wd;have:=h.bag;have:=h.dr
 exact⟨⟨⟨ts_l h.ts hn,⟨by show g.lex.length≤_;omega,fun k=>by have:=h.lx.w (k:Int);rw [Int.toNat_natCast] at this;show (g.lex.getD k []).length ≤_;omega⟩,bd_p h.b0 hn⟩,bd_p h.bd hn,by omega,fun k=>by have:=h.rk.w k;show (g.racks.getD k.toNat []).length ≤_;omega,bef_p h hn,by omega,by omega⟩,by omega,⟨⟨by show g.ts.values.length≤_;omega,by show g.ts.counts.length≤_;omega,by show g.lex.length≤_;omega⟩,by omega,by omega,by omega⟩⟩
end Ax
namespace Ax
set_option maxRecDepth 100000
set_option maxHeartbeats 2000000
def mixN (x:Int):Int:=(x*1103515245+12345)%2147483648
def swp (L:List UInt8) (i k:Nat):List UInt8:=(L.set i (L.getD k 0)).set k (L.getD i 0)
def shufG:Nat→Int→List UInt8→List UInt8
 | 0,_,L=>L
 | i+1,x,L=>shufG i (mixN x) (swp L (i+1) ((mixN x/65536)%((i:Int)+2)).toNat)
def shufL (s:List UInt8) (x:Int):List UInt8:=shufG (s.length-1) x s
theorem swp_len (L:List UInt8) (i k:Nat):(swp L i k).length =L.length:=by unfold swp;rw [List.length_set,List.length_set]
theorem shufG_len : ∀(i:Nat) (x:Int) (L:List UInt8),(shufG i x L).length =L.length
 | 0,_,_=>rfl
 | i+1,x,L=>by rw [shufG,shufG_len,swp_len]
theorem mixN_bd {x:Int} (h:0≤x):0≤mixN x∧mixN x<2147483648:=by unfold mixN;omega
theorem shuf_step {i x:Int} {L:List UInt8} (h:0<i):shufG i.toNat x L=shufG (i-1).toNat (mixN x) (swp L i.toNat ((mixN x/65536)%(i+1)).toNat):=by
 obtain⟨j,rfl⟩ : ∃j:Nat,i=(j:Int)+1:=⟨(i-1).toNat,by omega⟩
 rw [show ((j:Int)+1).toNat =j+1 by omega,show ((j:Int)+1-1).toNat =j by omega,shufG]
 congr 2
theorem shufL_len (s:List UInt8) (x:Int):(shufL s x).length =s.length:=shufG_len _ _ _
def bgnG (u:Su) (b:List UInt8):Gm:=⟨u.ts,u.lex,u.bd,u.secs,u.rule,u.bd,b.drop 14,[isort (b.take 7),isort ((b.take 14).drop 7)],[0,0],[u.secs,u.secs],0,0,⟨0,0,⟨0,0,false,[]⟩,[],[],0,0⟩,false⟩
def bgnC (u:Su) (b:List UInt8):Int:=if suB u&&bagB b then (if isort b=allT u.ts then (if b.length<14 then 6 else 0) else 2) else 1
def bgnR (u:Su) (b:List UInt8):Gm:=if bgnC u b=0 then bgnG u b else gm0
@[reducible] def shAc:List AtTy:=[.i .i64,.i .i64,.i .i64,.b,.s,.s,.i .i64]
structure Rcd where
 seed:Int
 acts:List (El shAc)
def acE (x:El shAc):Ac:=⟨x.1,⟨x.2.1,x.2.2.1,x.2.2.2.1,x.2.2.2.2.1⟩,x.2.2.2.2.2.1,x.2.2.2.2.2.2⟩
def rcOf:List PV→Option Rcd
 | [.i .i64 a,.rsl [.i .i64,.i .i64,.i .i64,.b,.s,.s,.i .i64] L]=>some ⟨a,L⟩
 | _=>none
def rcK (r:Rcd) (l:PV):List PV:=[.i .i64 r.seed,l]
theorem rcOf_eq {l:List PV} {r:Rcd} (h:rcOf l=some r):l=rcK r (.rsl shAc r.acts):=by
 unfold rcOf at h
 split at h
 ·cases h;rfl
 ·cases h
def aRcd:Args Rcd:=⟨rcOf,fun r=>rcK r (.rsl shAc r.acts),fun _ _=>rcOf_eq⟩
def rcT (r:Rcd):Bool:=inR r.seed 0 2147483647&&decide (r.acts.length≤200)
def rcA (l:List (El shAc)):Bool:=l.all fun x=>actB (acE x)
def rcB (r:Rcd):Bool:=rcA r.acts&&rcT r
def acN (r:Rcd) (k:Int):Ac:=acE (r.acts.getD k.toNat (dE shAc))
def runR:Gm→List (El shAc)→List Gm×List Int×Int
 | _,[]=>([],[],0)
 | g,x::l=>if doC g (acE x)=0 then (doG g (acE x)::(runR (doG g (acE x)) l).1,doP g (acE x)::(runR (doG g (acE x)) l).2.1,(runR (doG g (acE x)) l).2.2) else ([],[],doC g (acE x))
def bgC (u:Su) (r:Rcd):Int:=if suB u&&rcB r then bgnC u (shufL (allT u.ts) r.seed) else 1
def bgG (u:Su) (r:Rcd):Gm:=bgnG u (shufL (allT u.ts) r.seed)
def crI (u:Su) (r:Rcd):Int:=if bgC u r=0 then (if (runR (bgG u r) r.acts).2.2=0 then -1 else ((runR (bgG u r) r.acts).1.length : Int)) else 0
end Ax
namespace Ax
set_option maxRecDepth 100000
set_option maxHeartbeats 2000000
def qeN (a b:List Int):Bool:=a==b
def qeW (a b:List (List UInt8)):Bool:=a==b
def qeTs (a b:TS):Bool:=a.letters==b.letters&&(qeN a.values b.values&&(qeN a.counts b.counts&&a.blanks==b.blanks))
def qeBd (a b:Bd):Bool:=a.size==b.size&&(a.prem==b.prem&&a.cells==b.cells)
def qePl (a b:Pl):Bool:=a.row==b.row&&(a.col==b.col&&(a.down==b.down&&a.word==b.word))
def qeLa (a b:La):Bool:=a.kind==b.kind&&(a.player==b.player&&(qePl a.play b.play&&(a.before==b.before&&(a.drawn==b.drawn&&(a.score==b.score&&a.zeros==b.zeros)))))
def qeSu (a b:Su):Bool:=qeTs a.ts b.ts&&(qeW a.lex b.lex&&(qeBd a.bd b.bd&&(a.secs==b.secs&&a.rule==b.rule)))
def qeGm (a b:Gm):Bool:=qeSu (gSu a) (gSu b)&&(qeBd a.bd b.bd&&(a.bag==b.bag&&(qeW a.racks b.racks&&(qeN a.scores b.scores&&(qeN a.clocks b.clocks&&(a.player==b.player&&(a.zeros==b.zeros&&(qeLa a.last b.last&&a.over==b.over))))))))
theorem qeN_r (a:List Int):qeN a a=true:=by simp [qeN]
theorem qeW_r (a:List (List UInt8)):qeW a a=true:=by simp [qeW]
theorem qeBd_r (a:Bd):qeBd a a=true:=by simp [qeBd]
theorem qePl_r (a:Pl):qePl a a=true:=by simp [qePl]
theorem qeTs_r (a:TS):qeTs a a=true:=by simp [qeTs,qeN_r]
theorem qeLa_r (a:La):qeLa a a=true:=by simp [qeLa,qePl_r]
theorem qeSu_r (a:Su):qeSu a a=true:=by simp [qeSu,qeTs_r,qeW_r,qeBd_r]
theorem qeGm_r (a:Gm):qeGm a a=true:=by simp [qeGm,qeSu_r,qeBd_r,qeW_r,qeN_r,qeLa_r]
section
variable {α:Type} {a b:List α} {k:Int} {d:α}
theorem eq_tk (h0:0≤k) (h1:k<a.length) (hl:a.length=b.length) (h:a.take k.toNat=b.take k.toNat) (he:a.getD k.toNat d=b.getD k.toNat d):a.take (k+1).toNat =b.take (k+1).toNat :=by
 rw [tk h0 h1 d,tk h0 (by omega) d,h,he]
theorem eq_al (h1:(a.length:Int)≤k) (hl:a.length=b.length) (h:a.take k.toNat=b.take k.toNat):a=b:=by
 rw [←tk_all h1,h,tk_all (by omega)]
theorem eq_no (he:a.getD k.toNat d≠b.getD k.toNat d):a≠b:=fun h=>he (by rw [h])
end
def sp_l_eqInt64S (p:Pr):FSpec:=fsp (ac aN (a1 aN)) (fun (a,b)=>p.leP (p.len a) 1073741824) (fun (a,b)=>.b (qeN a b))
theorem ok_l_eqInt64S:FOk Tryz.prog 112 (sp_l_eqInt64S std):=by
 refine FOk.go (c:=cx std [] [] 0) (cx_ok .nil .nil) mixed Tryz.func112 rfl rfl rfl (by kernel_rfl) ?_
 rintro ⟨a,b⟩ hp
 dsimp only at hp
 refine⟨rfl,?_⟩
 obtain⟨H,hH⟩ : ∃H:Hd (Int),H=⟨fun k=>0≤k∧k≤a.length∧a.length=b.length∧a.take k.toNat=b.take k.toNat,fun k=>(a.length-k).toNat,(· < ·)⟩:=⟨_,rfl⟩
 have hl : ∀m n,H.lt m n→m<n:=by subst hH;exact fun _ _ h=>h
 generalize hP:std=p,hB0:qeN=B0
 cbv
 repeat' first
  | (refine fun (_:Unit)=>?_;cbv)
  | (refine Or.inr ⟨11,[],[.s 5 (.i .i64)],[],[],H,rfl,hl,?_,fun (k:Int) hk=>?_⟩<;>cbv)
  | (refine aI2 (fun h=>?_) (fun h=>?_)<;>cbv)
  | (refine aI2 ?_ ?_)
 all_goals subst hP hB0 hH
 all_goals clear hl
 all_goals try dsimp only at hk
 all_goals try dsimp only
 all_goals try exact fin
 ·show (a==b)=false
  exact beq_eq_false_iff_ne.2 fun e=>beq_eq_false_iff_ne.1 (show ((a.length:Int)==(b.length:Int))=false from h) (by rw [e])
 all_goals obtain⟨q0,q1,q2,q3⟩:=hk
 ·show (a==b)=false
  exact beq_eq_false_iff_ne.2 (eq_no (d:=0) (k:=k) (beq_eq_false_iff_ne.1 (show (a.getD k.toNat 0==b.getD k.toNat 0)=false from h)))
 ·have hlt:k<(a.length:Int):=lt_of ‹_›
  exact⟨by show 0≤k+1;omega,by show k+1≤(a.length:Int);omega,q2,eq_tk q0 hlt q2 q3 (beq_iff_eq.1 (show (a.getD k.toNat 0==b.getD k.toNat 0)=true from h))⟩
 ·show (a==b)=true
  exact beq_iff_eq.2 (eq_al (ge_of h) q2 q3)
def sp_l_eqStringS (p:Pr):FSpec:=fsp (ac aW (a1 aW)) (fun (a,b)=>p.leP (p.len a) 1073741824) (fun (a,b)=>.b (qeW a b))
theorem ok_l_eqStringS:FOk Tryz.prog 111 (sp_l_eqStringS std):=by
 refine FOk.go (c:=cx std [] [] 0) (cx_ok .nil .nil) mixed Tryz.func111 rfl rfl rfl (by kernel_rfl) ?_
 rintro ⟨a,b⟩ hp
 dsimp only at hp
 refine⟨rfl,?_⟩
 obtain⟨H,hH⟩ : ∃H:Hd (Int),H=⟨fun k=>0≤k∧k≤a.length∧a.length=b.length∧a.take k.toNat=b.take k.toNat,fun k=>(a.length-k).toNat,(· < ·)⟩:=⟨_,rfl⟩
 have hl : ∀m n,H.lt m n→m<n:=by subst hH;exact fun _ _ h=>h
 generalize hP:std=p,hB0:qeW=B0
 cbv
 repeat' first
  | (refine fun (_:Unit)=>?_;cbv)
  | (refine Or.inr ⟨11,[],[.s 5 (.i .i64)],[],[],H,rfl,hl,?_,fun (k:Int) hk=>?_⟩<;>cbv)
  | (refine aI2 (fun h=>?_) (fun h=>?_)<;>cbv)
  | (refine aI2 ?_ ?_)
 all_goals subst hP hB0 hH
 all_goals clear hl
 all_goals try dsimp only at hk
 all_goals try dsimp only
 all_goals try exact fin
 ·show (a==b)=false
  exact beq_eq_false_iff_ne.2 fun e=>beq_eq_false_iff_ne.1 (show ((a.length:Int)==(b.length:Int))=false from h) (by rw [e])
 all_goals obtain⟨q0,q1,q2,q3⟩:=hk
 ·show (a==b)=false
  exact beq_eq_false_iff_ne.2 (eq_no (d:=[]) (k:=k) (beq_eq_false_iff_ne.1 (show (a.getD k.toNat []==b.getD k.toNat [])=false from h)))
 ·have hlt:k<(a.length:Int):=lt_of ‹_›
  exact⟨by show 0≤k+1;omega,by show k+1≤(a.length:Int);omega,q2,eq_tk q0 hlt q2 q3 (beq_iff_eq.1 (show (a.getD k.toNat []==b.getD k.toNat [])=true from h))⟩
 ·show (a==b)=true
  exact beq_iff_eq.2 (eq_al (ge_of h) q2 q3)
def sp_l_eqTileSet (p:Pr):FSpec:=fsp (ac (aA aTs) (a1 (aA aTs))) (fun (a,b)=>TsN a) (fun (a,b)=>.b (qeTs a b))
theorem ok_l_eqTileSet:FOk Tryz.prog 114 (sp_l_eqTileSet std):=by
 refine FOk.go (c:=cx std [(112,sp_l_eqInt64S std)] [] 0) (cx_ok (.cons ok_l_eqInt64S .nil) .nil) mixed Tryz.func114 rfl rfl rfl (by kernel_rfl) ?_
 rintro ⟨a,b⟩ hp
 dsimp only at hp
 refine⟨rfl,?_⟩
 unfold sp_l_eqInt64S
 generalize hP:std=p,hB0:qeTs=B0,hB1:qeN=B1
 cbv
 repeat' first
  | (refine fun (_:Unit)=>?_;cbv)
  | (refine aI2 (fun h=>?_) (fun h=>?_)<;>cbv)
  | (refine aI2 ?_ ?_)
  | (refine Or.inl (fun (_:Unit)=>?_);cbv)
 all_goals subst hP hB0 hB1
 all_goals try exact fin
 all_goals (try simp only [sd_eqI,sd_eqS,sd_eqB,eta_ts,eta_bd,eta_pl,eta_la,eta_su] at *)
 all_goals first
  | exact hp.v
  | exact hp.c
  | simp only [qeTs, *,Bool.true_and,Bool.false_and,Bool.and_true]
def sp_l_eqLexicon (p:Pr):FSpec:=fsp (ac (aA aLex) (a1 (aA aLex))) (fun (a,b)=>p.leP (p.len a) 1073741824) (fun (a,b)=>.b (qeW a b))
theorem ok_l_eqLexicon:FOk Tryz.prog 115 (sp_l_eqLexicon std):=by
 refine FOk.go (c:=cx std [(111,sp_l_eqStringS std)] [] 0) (cx_ok (.cons ok_l_eqStringS .nil) .nil) mixed Tryz.func115 rfl rfl rfl (by kernel_rfl) ?_
 rintro ⟨a,b⟩ hp
 dsimp only at hp
 refine⟨rfl,?_⟩
 unfold sp_l_eqStringS
 generalize hP:std=p,hB0:qeW=B0
 cbv
 repeat' first
  | (refine fun (_:Unit)=>?_;cbv)
  | (refine aI2 (fun h=>?_) (fun h=>?_)<;>cbv)
  | (refine aI2 ?_ ?_)
  | (refine Or.inl (fun (_:Unit)=>?_);cbv)
 all_goals subst hP hB0
 all_goals try exact fin
def sp_l_eqBoard (p:Pr):FSpec:=fsp (ac (aA aBd) (a1 (aA aBd))) (fun (a,b)=>True) (fun (a,b)=>.b (qeBd a b))
theorem ok_l_eqBoard:FOk Tryz.prog 110 (sp_l_eqBoard std):=by
 refine FOk.go (c:=cx std [] [] 0) (cx_ok .nil .nil) mixed Tryz.func110 rfl rfl rfl (by kernel_rfl) ?_
 rintro ⟨a,b⟩ hp
 dsimp only at hp
 refine⟨rfl,?_⟩
 generalize hP:std=p,hB0:qeBd=B0
 cbv
 repeat' first
  | (refine fun (_:Unit)=>?_;cbv)
  | (refine aI2 (fun h=>?_) (fun h=>?_)<;>cbv)
  | (refine aI2 ?_ ?_)
  | (refine Or.inl (fun (_:Unit)=>?_);cbv)
 all_goals subst hP hB0
 all_goals try exact fin
 all_goals (try simp only [sd_eqI,sd_eqS,sd_eqB,eta_ts,eta_bd,eta_pl,eta_la,eta_su] at *)
 all_goals first
  | simp only [qeBd, *,Bool.true_and,Bool.false_and,Bool.and_true]
def sp_l_eqPlay (p:Pr):FSpec:=fsp (ac (aA aPl) (a1 (aA aPl))) (fun (a,b)=>True) (fun (a,b)=>.b (qePl a b))
theorem ok_l_eqPlay:FOk Tryz.prog 185 (sp_l_eqPlay std):=by
 refine FOk.go (c:=cx std [] [] 0) (cx_ok .nil .nil) mixed Tryz.func185 rfl rfl rfl (by kernel_rfl) ?_
 rintro ⟨a,b⟩ hp
 dsimp only at hp
 refine⟨rfl,?_⟩
 generalize hP:std=p,hB0:qePl=B0
 cbv
 repeat' first
  | (refine fun (_:Unit)=>?_;cbv)
  | (refine aI2 (fun h=>?_) (fun h=>?_)<;>cbv)
  | (refine aI2 ?_ ?_)
  | (refine Or.inl (fun (_:Unit)=>?_);cbv)
 all_goals subst hP hB0
 all_goals try exact fin
 all_goals (try simp only [sd_eqI,sd_eqS,sd_eqB,eta_ts,eta_bd,eta_pl,eta_la,eta_su] at *)
 all_goals first
  | simp only [qePl, *,Bool.true_and,Bool.false_and,Bool.and_true]
def sp_l_eqLast (p:Pr):FSpec:=fsp (ac (aA aLa) (a1 (aA aLa))) (fun (a,b)=>True) (fun (a,b)=>.b (qeLa a b))
theorem ok_l_eqLast:FOk Tryz.prog 113 (sp_l_eqLast std):=by
 refine FOk.go (c:=cx std [(185,sp_l_eqPlay std)] [] 0) (cx_ok (.cons ok_l_eqPlay .nil) .nil) mixed Tryz.func113 rfl rfl rfl (by kernel_rfl) ?_
 rintro ⟨a,b⟩ hp
 dsimp only at hp
 refine⟨rfl,?_⟩
 unfold sp_l_eqPlay
 generalize hP:std=p,hB0:qeLa=B0,hB1:qePl=B1
 cbv
 repeat' first
  | (refine fun (_:Unit)=>?_;cbv)
  | (refine aI2 (fun h=>?_) (fun h=>?_)<;>cbv)
  | (refine aI2 ?_ ?_)
  | (refine Or.inl (fun (_:Unit)=>?_);cbv)
 all_goals subst hP hB0 hB1
 all_goals try exact fin
 all_goals (try simp only [sd_eqI,sd_eqS,sd_eqB,eta_ts,eta_bd,eta_pl,eta_la,eta_su] at *)
 all_goals first
  | simp only [qeLa, *,Bool.true_and,Bool.false_and,Bool.and_true]
def sp_l_eqSetup (p:Pr):FSpec:=fsp (ac (aA aSu) (a1 (aA aSu))) (fun (a,b)=>SuN a) (fun (a,b)=>.b (qeSu a b))
theorem ok_l_eqSetup:FOk Tryz.prog 44 (sp_l_eqSetup std):=by
 refine FOk.go (c:=cx std [(114,sp_l_eqTileSet std),(115,sp_l_eqLexicon std),(110,sp_l_eqBoard std)] [] 0) (cx_ok (.cons ok_l_eqTileSet (.cons ok_l_eqLexicon (.cons ok_l_eqBoard .nil))) .nil) mixed Tryz.func44 rfl rfl rfl (by kernel_rfl) ?_
 rintro ⟨a,b⟩ hp
 dsimp only at hp
 refine⟨rfl,?_⟩
 unfold sp_l_eqTileSet sp_l_eqLexicon sp_l_eqBoard
 generalize hP:std=p,hB0:qeSu=B0,hB1:qeTs=B1,hB2:qeW=B2,hB3:qeBd=B3
 cbv
 repeat' first
  | (refine fun (_:Unit)=>?_;cbv)
  | (refine aI2 (fun h=>?_) (fun h=>?_)<;>cbv)
  | (refine aI2 ?_ ?_)
  | (refine Or.inl (fun (_:Unit)=>?_);cbv)
 all_goals subst hP hB0 hB1 hB2 hB3
 all_goals try exact fin
 all_goals (try simp only [sd_eqI,sd_eqS,sd_eqB,eta_ts,eta_bd,eta_pl,eta_la,eta_su] at *)
 all_goals first
  | exact hp.ts
  | exact hp.l
  | simp only [qeSu, *,Bool.true_and,Bool.false_and,Bool.and_true]
def sp_l_eqGame (p:Pr):FSpec:=fsp (ac (aA aGm) (a1 (aA aGm))) (fun (a,b)=>GmN a) (fun (a,b)=>.b (qeGm a b))
theorem ok_l_eqGame:FOk Tryz.prog 43 (sp_l_eqGame std):=by
 refine FOk.go (c:=cx std [(44,sp_l_eqSetup std),(110,sp_l_eqBoard std),(111,sp_l_eqStringS std),(112,sp_l_eqInt64S std),(113,sp_l_eqLast std)] [] 0) (cx_ok (.cons ok_l_eqSetup (.cons ok_l_eqBoard (.cons ok_l_eqStringS (.cons ok_l_eqInt64S (.cons ok_l_eqLast .nil))))) .nil) mixed Tryz.func43 rfl rfl rfl (by kernel_rfl) ?_
 rintro ⟨a,b⟩ hp
 dsimp only at hp
 refine⟨rfl,?_⟩
 unfold sp_l_eqSetup sp_l_eqBoard sp_l_eqStringS sp_l_eqInt64S sp_l_eqLast
 generalize hP:std=p,hB0:qeGm=B0,hB1:qeSu=B1,hB2:qeBd=B2,hB3:qeW=B3,hB4:qeN=B4,hB5:qeLa=B5
 cbv
 repeat' first
  | (refine fun (_:Unit)=>?_;cbv)
  | (refine aI2 (fun h=>?_) (fun h=>?_)<;>cbv)
  | (refine aI2 ?_ ?_)
  | (refine Or.inl (fun (_:Unit)=>?_);cbv)
 all_goals subst hP hB0 hB1 hB2 hB3 hB4 hB5
 all_goals try exact fin
 all_goals (try simp only [sd_eqI,sd_eqS,sd_eqB,eta_ts,eta_bd,eta_pl,eta_la,eta_su] at *)
 all_goals first
  | exact hp.su
  | exact hp.r
  | exact hp.s
  | exact hp.k
  | simp only [qeGm, *,Bool.true_and,Bool.false_and,Bool.and_true]
end Ax
namespace Ax
set_option maxRecDepth 100000
set_option maxHeartbeats 20000000
def szA (n:Int) (a:Ac):Int:=szS (szP n a.play) a.tiles
theorem zA {n:Int} {a:Ac} (h:0≤szA n a):0≤n∧szA n a≤n∧(a.play.word.length:Int)≤n∧(a.tiles.length:Int)≤n:=by
 have h1:=zS h
 have h2:=zP h1.1
 unfold szA
 exact⟨h2.1,by omega,h2.2.2,by omega⟩
structure AcZ (a:Ac):Prop where
 w:(a.play.word.length:Int)≤9223372036854775807
 t:(a.tiles.length:Int)≤9223372036854775807
def sp_l_szAction (p:Pr):FSpec:=fsp (ac (aA aAc) (a1 aI)) (fun (a,n)=>NL n∧AcZ a) (fun (a,n)=>.i .i64 (szA n a))
theorem ok_l_szAction:FOk Tryz.prog 178 (sp_l_szAction std):=by
 refine FOk.go (c:=cx std [(224,sp_l_szPlay std)] [] 0) (cx_ok (.cons ok_l_szPlay .nil) .nil) mixed Tryz.func178 rfl rfl rfl (by kernel_rfl) ?_
 rintro ⟨a,n⟩ hp
 dsimp only at hp
 refine⟨rfl,?_⟩
 unfold sp_l_szPlay
 generalize hP:std=p,hB0:szA=B0,hB1:szP=B1
 cbv
 repeat' first
  | (refine fun (_:Unit)=>?_;cbv)
  | (refine aI2 (fun h=>?_) (fun h=>?_)<;>cbv)
  | (refine aI2 ?_ ?_)
  | (refine Or.inl (fun (_:Unit)=>?_);cbv)
 all_goals subst hP hB0 hB1
 all_goals try exact fin
 all_goals (try simp only [eta_pl] at *)
 all_goals obtain⟨⟨n0,n1⟩,hz⟩:=hp
 all_goals have hw:=hz.w
 all_goals have ht:=hz.t
 ·exact hw
 ·have h1:szP n a.play= -1:=by
   have:=lt_of h
   have : -1≤szP n a.play:=szL_ge (by omega) _
   omega
  rw [szA,h1,szS,szL_neg]
 all_goals have h0:0≤szP n a.play:=ge_of ‹_›
 all_goals have hl:=(zP h0).2.1
 ·exact in64 (by show _≤szP n a.play-(a.tiles.length:Int)∧szP n a.play-(a.tiles.length:Int)≤_;omega)
 ·have h4:szP n a.play-(a.tiles.length:Int)<0:=lt_of h
  rw [szA,szS,szL_one h0,if_pos h4]
 ·have h4:0≤szP n a.play-(a.tiles.length:Int):=ge_of h
  rw [szA,szS,szL_one h0,if_neg (by omega)];rfl
def sp_l_toAction (p:Pr):FSpec:=fsp (a1 (aA aAc)) (fun a=>True) (fun a=>.agg (acK a))
theorem ok_l_toAction:FOk Tryz.prog 183 (sp_l_toAction std):=by
 refine FOk.go (c:=cx std [(228,sp_l_toPlay std)] [] 0) (cx_ok (.cons ok_l_toPlay .nil) .nil) mixed Tryz.func183 rfl rfl rfl (by kernel_rfl) ?_
 rintro a hp
 refine⟨rfl,?_⟩
 unfold sp_l_toPlay
 generalize hP:std=p
 cbv
 repeat' first
  | (refine fun (_:Unit)=>?_;cbv)
  | (refine aI2 (fun h=>?_) (fun h=>?_)<;>cbv)
  | (refine aI2 ?_ ?_)
  | (refine Or.inl (fun (_:Unit)=>?_);cbv)
 all_goals subst hP
 all_goals try exact fin
end Ax
namespace Ax
set_option maxRecDepth 100000
set_option maxHeartbeats 20000000
structure IdP (g:Gm) (n:Int):Prop where
 cp:GcP g
 ck:CkP g n
 ply:inR g.player 0 1=true
 z : -10≤g.zeros∧g.zeros≤10
def sp_i_idle (p:Pr):FSpec:=fsp (ac (aA aGm) (ac aI (a1 aI))) (fun (g,k,n)=>IdP g n) (fun (g,k,n)=>.ptr 0 0) (fun (g,k,n)=>gmH ⟨g.ts,g.lex,g.bd0,g.secs,g.rule,g.bd,g.bag,g.racks,g.scores,ckL g n,zPl g,zZr g,⟨k,g.player,⟨0,0,false,[]⟩,[],[],0,0⟩,g.over⟩)
theorem ok_i_idle:FOk Tryz.prog 89 (sp_i_idle std):=by
 refine FOk.go (c:=cx std [(165,sp_i_copyGame std)] [(166,sp_i_xGame_begin std)] 0) (cx_ok (.cons ok_i_copyGame .nil) (.cons ok_i_xGame_begin .nil)) mixed Tryz.func89 rfl rfl rfl (by kernel_rfl) ?_
 rintro ⟨g,k,n⟩ hp
 dsimp only at hp
 refine⟨rfl,?_⟩
 unfold sp_i_copyGame sp_i_xGame_begin
 generalize hP:std=p,hB0:ckL=B0,hB1:zPl=B1,hB2:zZr=B2
 cbv
 repeat' first
  | (refine fun (_:Unit)=>?_;cbv)
  | (refine aI2 (fun h=>?_) (fun h=>?_)<;>cbv)
  | (refine aI2 ?_ ?_)
  | (refine Or.inl (fun (_:Unit)=>?_);cbv)
 all_goals subst hP hB0 hB1 hB2
 all_goals try exact fin
 all_goals have h1:=hp.ck.ply
 all_goals have h2:=hp.ck.len
 all_goals have h3:=hp.ck.num
 all_goals have h4:=hp.z
 ·exact ck_in hp.ck
 ·exact in64 (by show _≤g.clk g.player-n∧g.clk g.player-n≤_;omega)
 ·exact in64 (by show _≤1-g.player∧1-g.player≤_;rcases h1 with h | h<;>omega)
 ·exact in64 (by show _≤g.zeros+1∧g.zeros+1≤_;omega)
section
variable {a b t:List UInt8} {g:Gm} {k n:Int}
theorem pile_iso (ht:pileB t=true):isort t=t:=(isort_unique (pileB_asc ht).2 fun _=>rfl).symm
theorem wt_b (hb:rackB b=true) (ht:pileB t=true):takeB b t=withoutB b t:=by
 have h:=take_less2 hb (pileB_asc ht).1
 rw [pile_iso ht] at h
 exact h
theorem wt_s (hb:rackB b=true) (ht:pileB t=true) (h:takeB b t=true):withoutS b t=takeS b t:=by
 have h2:=rest_same hb (pileB_asc ht).1 (by rw [pile_iso ht];exact h)
 rw [pile_iso ht] at h2
 exact h2.symm
theorem st_tk (h:ExF a b t):StP (takeS b t++a.take t.length):=by
 have h1:=(bag_stp h.ha).ti
 have h2:=(rack_stp h.hb).ti
 have h3:=h.la;have h4:=h.lb;have h5:=h.lr
 refine⟨?_,by rw [List.length_append,List.length_take];omega⟩
 rw [List.all_append,Bool.and_eq_true]
 exact⟨List.all_eq_true.2 fun x hx=>List.all_eq_true.1 h2 x ((takeGo_sub b t).mem hx),List.all_eq_true.2 fun x hx=>List.all_eq_true.1 h1 x (List.mem_of_mem_take hx)⟩
theorem pile_stp (h:pileB t=true):StP t:=by
 have h2:=h
 rw [pile_adj,Bool.and_eq_true,decide_eq_true_eq] at h2
 exact⟨(pileB_asc h).1,by omega⟩
theorem cpy2 (X Y:List UInt8) {n:Nat} (h:X.length+Y.length=n):std.toS (std.cpy (std.cpy (List.replicate n (0:Int)) 0 (toBl X)) (X.length:Int) (toBl Y))=X++Y:=by
 have e1:std.cpy (List.replicate n (0:Int)) 0 (toBl X)=toBl X++List.replicate Y.length 0:=by
  show (List.replicate n (0:Int)).take 0++toBl X++(List.replicate n (0:Int)).drop (0+(toBl X).length)=_
  rw [toB_len,List.take_zero,List.nil_append,List.drop_replicate]
  congr 2
  omega
 rw [e1]
 show toSl ((toBl X++List.replicate Y.length 0).take ((X.length:Int)).toNat ++toBl Y++(toBl X++List.replicate Y.length 0).drop (((X.length:Int)).toNat + (toBl Y).length))=_
 rw [show ((X.length:Int)).toNat =(toBl X).length by simp,List.take_left,List.drop_of_length_le (by simp),List.append_nil,toB_app,toS_toB]
theorem cpy_room (X:List UInt8) {n m:Nat} (h:X.length+m≤n):(X.length:Int)+(m:Int)≤((std.cpy (List.replicate n (0:Int)) 0 (toBl X)).length : Int):=by
 rw [cpy_len (by simp;omega),List.length_replicate]
 omega
end
def sp_i_ExchangeTiles (p:Pr):FSpec:=fsp (ac aS (ac aS (a1 aS))) (fun (a,b,t)=>ExP a b t) (fun (a,b,t)=>.tup [.s (exR a b t),.s (exB a b t),.i .i64 (exC a b t)])
theorem ok_i_ExchangeTiles:FOk Tryz.prog 93 (sp_i_ExchangeTiles std):=by
 refine FOk.go (c:=cx std [(57,sp_i_ValidBag std),(73,sp_i_ValidRack std),(81,sp_i_ValidPile std),(169,sp_i_without std),(58,sp_i_sorted std)] [] 0) (cx_ok (.cons ok_i_ValidBag (.cons ok_i_ValidRack (.cons ok_i_ValidPile (.cons ok_i_without (.cons ok_i_sorted .nil))))) .nil) mixed Tryz.func93 rfl rfl rfl (by kernel_rfl) ?_
 rintro ⟨a,b,t⟩ hp
 dsimp only at hp
 refine⟨rfl,?_⟩
 unfold sp_i_ValidBag sp_i_ValidRack sp_i_ValidPile sp_i_without sp_i_sorted
 generalize hP:std=p,hB0:exR=B0,hB1:exB=B1,hB2:exC=B2,hB3:bagB=B3,hB4:rackB=B4,hB5:pileB=B5,hB6:withoutS=B6,hB7:withoutB=B7,hB8:pileL=B8,hB9:countsL=B9
 cbv
 repeat' first
  | (refine fun (_:Unit)=>?_;cbv)
  | (refine aI2 (fun h=>?_) (fun h=>?_)<;>cbv)
  | (refine aI2 ?_ ?_)
  | (refine Or.inl (fun (_:Unit)=>?_);cbv)
 all_goals subst hP hB0 hB1 hB2 hB3 hB4 hB5 hB6 hB7 hB8 hB9
 all_goals try exact fin
 all_goals try (have hw:takeB b t=withoutB b t:=wt_b ‹_› ‹_›)
 all_goals try (have hc:exC a b t=0:=by rw [exC_std];simp only [*]<;>simp)
 all_goals try (have hF:=ex_f hc;have h1:=hF.la;have h2:=hF.lb;have h3:=hF.lt;have h4:=hF.lr;have hs:=wt_s hF.hb hF.ht hF.tk)
 all_goals first
  | exact ltM_of hp.la
  | exact ltM_of hp.lb
  | exact ltM_of hp.lt
  | exact exR_no (by rw [exC_std];simp only [*]<;>simp)
  | exact exB_no (by rw [exC_std];simp only [*]<;>simp)
  | (rw [exC_std];simp only [*]<;>simp;done)
  | exact rack_stp ‹_›
  | exact pile_stp ‹_›
  | (show (t.length:Int)≤(a.length:Int);omega)
  | (show ((a.drop t.length).length : Int)+(t.length:Int)≤((std.cpy (List.replicate a.length (0:Int)) 0 (toBl (a.drop t.length))).length : Int);exact cpy_room (a.drop t.length) (by rw [List.length_drop];omega))
  | exact in64 (by show _≤((withoutS b t).length : Int)+((a.take t.length).length : Int)∧((withoutS b t).length : Int)+((a.take t.length).length : Int)≤_;rw [hs,List.length_take];omega)
  | (show StP (withoutS b t++a.take t.length);rw [hs];exact st_tk hF)
  | (show pileL (countsL (withoutS b t++a.take t.length))=_;rw [hs,sort_pile (st_tk hF).ti,exR_eq hc];done)
  | (show std.toS (std.cpy (std.cpy (List.replicate a.length (0:Int)) 0 (toBl (a.drop t.length))) ((a.drop t.length).length : Int) (toBl t))=_;rw [exB_eq hc];exact cpy2 (a.drop t.length) t (by rw [List.length_drop];omega))
  | skip
def vSc (g:Gm) (k n:Int):List Int:=setS (idleG g k n) (idleE g)
def vOv (g:Gm):Bool:=ovB g (idleE g)
section
variable {g:Gm} {k n:Int} {t:List UInt8}
theorem vs_w (h:waitsB g=true):setS (idleG g k n) true=vSc g k n:=by
 unfold vSc idleE;rw [h];rfl
theorem vs_z (h:waitsB g=false):setS (idleG g k n) (std.eqI (std.add g.zeros 1) 6)=vSc g k n:=by
 unfold vSc idleE;rw [h];rfl
theorem vo_w (h:waitsB g=true):ovB g true=vOv g:=by
 unfold vOv idleE;rw [h];rfl
theorem vo_z (h:waitsB g=false):ovB g (std.eqI (std.add g.zeros 1) 6)=vOv g:=by
 unfold vOv idleE;rw [h];rfl
theorem vs_x (h:exC g.bag (g.rk g.player) t=0):setS (idleG (xtG g t) k n) (std.eqI (std.add g.zeros 1) 6)=vSc (xtG g t) k n:=by
 unfold vSc;rw [xt_idle h];rfl
theorem vo_x (h:exC g.bag (g.rk g.player) t=0):ovB g (std.eqI (std.add g.zeros 1) 6)=vOv (xtG g t):=by
 unfold vOv;rw [xt_idle h];rfl
theorem xz5 (hc:xtC g t n=0) (h:waitsB g=true):False:=by
 have:=(xt_waits (xt_act hc).2.2).2
 rw [h] at this;cases this
theorem id_p (hc:actC g n=0) (cp:GcL g):IdP g n:=
 ⟨⟨⟨⟨cp.v,cp.c⟩,cp.l⟩,cp.r,cp.s,cp.k⟩,zr_ck (pz_y hc),(gm_facts (sg (n:=n) (by simpa using hc))).ply,zr_z hc⟩
theorem wt_p (hc:actC g n=0):WtP g:=⟨(pz_y hc).r2,(gm_facts (sg (n:=n) (by simpa using hc))).ply⟩
end
structure PiY (g:Gm) (n:Int):Prop where
 gm:GmQ g
 cp:GcL g
 c:actC g n=0
structure PiN (g:Gm) (n:Int):Prop where
 gm:GmQ g
 cp:GcL g
 c:actC g n≠0
def sp_i_PassTurn_y (p:Pr):FSpec:=fsp (ac (aA aGm) (a1 aI)) (fun (g,n)=>PiY g n) (fun (g,n)=>.tup [.agg (gmK ⟨g.ts,g.lex,g.bd0,g.secs,g.rule,⟨g.bd.size,g.bd.prem,g.bd.cells⟩,g.bag,g.racks,vSc g 3 n,ckL g n,zPl g,zZr g,⟨3,g.player,⟨0,0,false,[]⟩,[],[],0,0⟩,vOv g⟩ (.osl 0) (.osl 1) (.osl 2) (.osl 3) (.osl 4) (.osl 5)),.i .i64 0]) (fun (g,n)=>[(0,.own [.i .i64] g.ts.values 2),(1,.own [.i .i64] g.ts.counts 2),(2,.own [.s] g.lex 9),(3,.own [.s] g.racks 9),(4,.own [.i .i64] (vSc g 3 n) 2),(5,.own [.i .i64] (ckL g n) 2)])
theorem ok_i_PassTurn_y:FOk Tryz.prog 31 (sp_i_PassTurn_y std):=by
 refine FOk.go (c:=cx std [(88,sp_i_actionCode std),(89,sp_i_idle std),(91,sp_i_Game_waits std)] [(90,sp_i_xGame_settle std)] 0) (cx_ok (.cons ok_i_actionCode (.cons ok_i_idle (.cons ok_i_Game_waits .nil))) (.cons ok_i_xGame_settle .nil)) mixed Tryz.func31 rfl rfl rfl (by kernel_rfl) ?_
 rintro ⟨g,n⟩ hp
 dsimp only at hp
 refine⟨rfl,?_⟩
 unfold sp_i_actionCode sp_i_idle sp_i_Game_waits sp_i_xGame_settle
 generalize hP:std=p,hB0:actC=B0,hB1:waitsB=B1,hB2:ckL=B2,hB3:zPl=B3,hB4:zZr=B4,hB5:vSc=B5,hB6:vOv=B6,hB7:setS=B7,hB8:ovB=B8
 cbv
 repeat' first
  | (refine fun (_:Unit)=>?_;cbv)
  | (refine aI2 (fun h=>?_) (fun h=>?_)<;>cbv)
  | (refine aI2 ?_ ?_)
  | (refine Or.inl (fun (_:Unit)=>?_);cbv)
 all_goals subst hP hB0 hB1 hB2 hB3 hB4 hB5 hB6 hB7 hB8
 all_goals try (exfalso;exact pz1 hp.c ‹_›)
 all_goals try exact fin
 all_goals first
  | exact hp.gm
  | exact id_p hp.c hp.cp
  | exact wt_p hp.c
  | exact⟨fun _=>zs_p hp.c⟩
  | exact congrArg (fun L=>Ob.own [.i .i64] L 2) (vs_w (g:=g) (k:=3) (n:=n) ‹_›)
  | exact congrArg (fun L=>Ob.own [.i .i64] L 2) (vs_z (g:=g) (k:=3) (n:=n) ‹_›)
  | exact vo_w (g:=g) ‹_›
  | exact vo_z (g:=g) ‹_›
  | skip
def sp_i_PassTurn_n (p:Pr):FSpec:=fsp (ac (aA aGm) (a1 aI)) (fun (g,n)=>PiN g n) (fun (g,n)=>.tup [.agg (gmK gm0 .esl .esl .esl .esl .esl .esl),.i .i64 (actC g n)])
theorem ok_i_PassTurn_n:FOk Tryz.prog 31 (sp_i_PassTurn_n std):=by
 refine FOk.go (c:=cx std [(88,sp_i_actionCode std),(89,sp_i_idle std),(91,sp_i_Game_waits std)] [(90,sp_i_xGame_settle std)] 0) (cx_ok (.cons ok_i_actionCode (.cons ok_i_idle (.cons ok_i_Game_waits .nil))) (.cons ok_i_xGame_settle .nil)) mixed Tryz.func31 rfl rfl rfl (by kernel_rfl) ?_
 rintro ⟨g,n⟩ hp
 dsimp only at hp
 refine⟨rfl,?_⟩
 unfold sp_i_actionCode sp_i_idle sp_i_Game_waits sp_i_xGame_settle
 generalize hP:std=p,hB0:actC=B0,hB1:waitsB=B1,hB2:ckL=B2,hB3:zPl=B3,hB4:zZr=B4,hB5:setS=B5,hB6:ovB=B6
 cbv
 repeat' first
  | (refine fun (_:Unit)=>?_;cbv)
  | (refine aI2 (fun h=>?_) (fun h=>?_)<;>cbv)
  | (refine aI2 ?_ ?_)
  | (refine Or.inl (fun (_:Unit)=>?_);cbv)
 all_goals subst hP hB0 hB1 hB2 hB3 hB4 hB5 hB6
 all_goals try (exfalso;exact pz2 hp.c ‹_›)
 all_goals try exact fin
 all_goals first
  | exact hp.gm
  | skip
structure XiP (g:Gm) (t:List UInt8):Prop where
 gm:GmQ g
 cp:GcL g
 t:t.length≤274877906944
structure XiY (g:Gm) (t:List UInt8) (n:Int):Prop where
 b:XiP g t
 c:xtC g t n=0
structure XiN (g:Gm) (t:List UInt8) (n:Int):Prop where
 b:XiP g t
 c:xtC g t n≠0
def yBag (g:Gm) (t:List UInt8):List UInt8:=exB g.bag (g.rk g.player) t
def yRks (g:Gm) (t:List UInt8):List (List UInt8):=g.racks.set g.player.toNat (exR g.bag (g.rk g.player) t)
def sp_i_ExchangeTurn_y (p:Pr):FSpec:=fsp (ac (aA aGm) (ac aS (a1 aI))) (fun (g,t,n)=>XiY g t n) (fun (g,t,n)=>.tup [.agg (gmK ⟨g.ts,g.lex,g.bd0,g.secs,g.rule,⟨g.bd.size,g.bd.prem,g.bd.cells⟩,yBag g t,yRks g t,vSc (xtG g t) 2 n,ckL g n,zPl g,zZr g,⟨2,g.player,⟨0,0,false,[]⟩,[],[],0,0⟩,vOv (xtG g t)⟩ (.osl 0) (.osl 1) (.osl 2) (.osl 3) (.osl 4) (.osl 5)),.i .i64 0]) (fun (g,t,n)=>[(0,.own [.i .i64] g.ts.values 2),(1,.own [.i .i64] g.ts.counts 2),(2,.own [.s] g.lex 9),(3,.own [.s] (yRks g t) 9),(4,.own [.i .i64] (vSc (xtG g t) 2 n) 2),(5,.own [.i .i64] (ckL g n) 2)])
theorem ok_i_ExchangeTurn_y:FOk Tryz.prog 33 (sp_i_ExchangeTurn_y std):=by
 refine FOk.go (c:=cx std [(81,sp_i_ValidPile std),(88,sp_i_actionCode std),(93,sp_i_ExchangeTiles std),(89,sp_i_idle std),(91,sp_i_Game_waits std)] [(90,sp_i_xGame_settle std)] 0) (cx_ok (.cons ok_i_ValidPile (.cons ok_i_actionCode (.cons ok_i_ExchangeTiles (.cons ok_i_idle (.cons ok_i_Game_waits .nil))))) (.cons ok_i_xGame_settle .nil)) mixed Tryz.func33 rfl rfl rfl (by kernel_rfl) ?_
 rintro ⟨g,t,n⟩ hp
 dsimp only at hp
 refine⟨rfl,?_⟩
 unfold sp_i_ValidPile sp_i_actionCode sp_i_ExchangeTiles sp_i_idle sp_i_Game_waits sp_i_xGame_settle
 generalize hP:std=p,hB0:actC=B0,hB1:waitsB=B1,hB2:ckL=B2,hB3:zPl=B3,hB4:zZr=B4,hB5:vSc=B5,hB6:vOv=B6,hB7:setS=B7,hB8:ovB=B8,hB9:exR=B9,hB10:exB=B10,hB11:exC=B11,hB12:pileB=B12,hB13:yBag=B13,hB14:yRks=B14,hB15:xtG=B15
 cbv
 repeat' first
  | (refine fun (_:Unit)=>?_;cbv)
  | (refine aI2 (fun h=>?_) (fun h=>?_)<;>cbv)
  | (refine aI2 ?_ ?_)
  | (refine Or.inl (fun (_:Unit)=>?_);cbv)
 all_goals subst hP hB0 hB1 hB2 hB3 hB4 hB5 hB6 hB7 hB8 hB9 hB10 hB11 hB12 hB13 hB14 hB15
 all_goals try (exfalso;exact xz1 hp.c ‹_›)
 all_goals try (exfalso;exact xz2 hp.c ‹_›)
 all_goals try (exfalso;exact xz3 hp.c ‹_›)
 all_goals try (exfalso;exact xz5 hp.c ‹_›)
 all_goals try exact fin
 all_goals have hG:=pz_y (xt0 hp.c)
 all_goals have hpl:=hG.fa.ply
 all_goals have hr2:=hG.r2
 all_goals first
  | exact hp.b.gm
  | exact ltM_of hp.b.t
  | exact⟨hpl.1,by show g.player<(g.racks.length:Int);omega⟩
  | exact⟨hp.b.gm.bag,hp.b.gm.rks g.player,hp.b.t⟩
  | exact id_p (xt0 hp.c) hp.b.cp
  | exact wt_p (xt0 hp.c)
  | exact⟨fun _=>zs_x (xt0 hp.c) (xt_act hp.c).2.2⟩
  | exact congrArg (fun L=>Ob.own [.i .i64] L 2) (vs_x (g:=g) (t:=t) (k:=2) (n:=n) (xt_act hp.c).2.2)
  | exact vo_x (g:=g) (t:=t) (xt_act hp.c).2.2
  | skip
def sp_i_ExchangeTurn_n (p:Pr):FSpec:=fsp (ac (aA aGm) (ac aS (a1 aI))) (fun (g,t,n)=>XiN g t n) (fun (g,t,n)=>.tup [.agg (gmK gm0 .esl .esl .esl .esl .esl .esl),.i .i64 (xtC g t n)])
theorem ok_i_ExchangeTurn_n:FOk Tryz.prog 33 (sp_i_ExchangeTurn_n std):=by
 refine FOk.go (c:=cx std [(81,sp_i_ValidPile std),(88,sp_i_actionCode std),(93,sp_i_ExchangeTiles std),(89,sp_i_idle std),(91,sp_i_Game_waits std)] [(90,sp_i_xGame_settle std)] 0) (cx_ok (.cons ok_i_ValidPile (.cons ok_i_actionCode (.cons ok_i_ExchangeTiles (.cons ok_i_idle (.cons ok_i_Game_waits .nil))))) (.cons ok_i_xGame_settle .nil)) mixed Tryz.func33 rfl rfl rfl (by kernel_rfl) ?_
 rintro ⟨g,t,n⟩ hp
 dsimp only at hp
 refine⟨rfl,?_⟩
 unfold sp_i_ValidPile sp_i_actionCode sp_i_ExchangeTiles sp_i_idle sp_i_Game_waits sp_i_xGame_settle
 generalize hP:std=p,hB0:actC=B0,hB1:waitsB=B1,hB2:ckL=B2,hB3:zPl=B3,hB4:zZr=B4,hB5:setS=B5,hB6:ovB=B6,hB7:exR=B7,hB8:exB=B8,hB9:exC=B9,hB10:pileB=B10,hB11:xtC=B11
 cbv
 repeat' first
  | (refine fun (_:Unit)=>?_;cbv)
  | (refine aI2 (fun h=>?_) (fun h=>?_)<;>cbv)
  | (refine aI2 ?_ ?_)
  | (refine Or.inl (fun (_:Unit)=>?_);cbv)
 all_goals subst hP hB0 hB1 hB2 hB3 hB4 hB5 hB6 hB7 hB8 hB9 hB10 hB11
 all_goals try (exfalso;exact xz4 hp.c ‹_› ‹_›)
 all_goals try exact fin
 all_goals try (have hG:=syg (show std.eqI (actC g n) 0=true by assumption);have hpl:=hG.fa.ply;have hr2:=hG.r2)
 all_goals first
  | exact hp.b.gm
  | exact ltM_of hp.b.t
  | exact⟨hpl.1,by show g.player<(g.racks.length:Int);omega⟩
  | exact⟨hp.b.gm.bag,hp.b.gm.rks g.player,hp.b.t⟩
  | exact (xt_1 ‹_›).symm
  | exact (xt_a ‹_› ‹_›).symm
  | exact (xt_e ‹_›).symm
  | skip
end Ax
namespace Ax
set_option maxRecDepth 100000
set_option maxHeartbeats 2000000
theorem v_zero (g:Gm) (k n:Int):(⟨g.ts,g.lex,g.bd0,g.secs,g.rule,g.bd,g.bag,g.racks,vSc g k n,ckL g n,zPl g,zZr g,⟨k,g.player,⟨0,0,false,[]⟩,[],[],0,0⟩,vOv g⟩:Gm)=zeroG g k n:=by
 unfold zeroG vSc vOv setS ovB
 cases idleE g with
 | true=>rw [if_pos rfl,if_pos rfl,Bool.or_true];rfl
 | false=>rw [if_neg (by decide),if_neg (by decide),Bool.or_false];rfl
structure PiP (g:Gm):Prop where
 gm:GmQ g
 cp:GcL g
def sp_i_PassTurn (p:Pr):FSpec:=fsp (ac (aA aGm) (a1 aI)) (fun (g,n)=>PiP g) (fun (g,n)=>.tup [.agg (gmO6 (passR g n)),.i .i64 (actC g n)]) (fun (g,n)=>gmH6 (passR g n))
def spPiN (p:Pr):FSpec:=fsp (ac (aA aGm) (a1 aI)) (fun (g,n)=>PiN g n) (fun (g,n)=>.tup [.agg (gmO6 gm0),.i .i64 (actC g n)]) (fun _=>gmH6 gm0)
theorem okPiN:FOk Tryz.prog 31 (spPiN std):=FOk.own ok_i_PassTurn_n rfl fun ⟨g,n⟩ w e u h hr=>
 tup_fol (.cons (agg_fol (esl_fol h)) (.cons (fun _ h=>h) .nil)) u hr
theorem ok_i_PassTurn:FOk Tryz.prog 31 (sp_i_PassTurn std):=FOk.casesE ok_i_PassTurn_y okPiN fun ⟨g,n⟩ hp=>by
 by_cases hc:actC g n=0
 ·have e:zeroG g 3 n=passR g n:=(if_pos hc).symm
  refine .inl ⟨⟨hp.gm,hp.cp,hc⟩,?_,?_⟩
  ·show _=PV.tup [.agg (gmO6 (passR g n)),.i .i64 (actC g n)]
   rw [hc,←e,←v_zero];rfl
  ·show _=gmH6 (passR g n)
   rw [←e,←v_zero];rfl
 ·refine .inr ⟨⟨hp.gm,hp.cp,hc⟩,?_,?_⟩
  ·show _=PV.tup [.agg (gmO6 (passR g n)),.i .i64 (actC g n)]
   unfold passR;rw [if_neg hc]
  ·show _=gmH6 (passR g n)
   unfold passR;rw [if_neg hc]
def sp_i_ExchangeTurn (p:Pr):FSpec:=fsp (ac (aA aGm) (ac aS (a1 aI))) (fun (g,t,n)=>XiP g t) (fun (g,t,n)=>.tup [.agg (gmO6 (xtR g t n)),.i .i64 (xtC g t n)]) (fun (g,t,n)=>gmH6 (xtR g t n))
def spXiN (p:Pr):FSpec:=fsp (ac (aA aGm) (ac aS (a1 aI))) (fun (g,t,n)=>XiN g t n) (fun (g,t,n)=>.tup [.agg (gmO6 gm0),.i .i64 (xtC g t n)]) (fun _=>gmH6 gm0)
theorem okXiN:FOk Tryz.prog 33 (spXiN std):=FOk.own ok_i_ExchangeTurn_n rfl fun ⟨g,t,n⟩ w e u h hr=>
 tup_fol (.cons (agg_fol (esl_fol h)) (.cons (fun _ h=>h) .nil)) u hr
theorem ok_i_ExchangeTurn:FOk Tryz.prog 33 (sp_i_ExchangeTurn std):=FOk.casesE ok_i_ExchangeTurn_y okXiN fun ⟨g,t,n⟩ hp=>by
 by_cases hc:xtC g t n=0
 ·have e:zeroG (xtG g t) 2 n=xtR g t n:=(if_pos hc).symm
  refine .inl ⟨⟨hp,hc⟩,?_,?_⟩
  ·show _=PV.tup [.agg (gmO6 (xtR g t n)),.i .i64 (xtC g t n)]
   rw [hc,←e,←v_zero];rfl
  ·show _=gmH6 (xtR g t n)
   rw [←e,←v_zero];rfl
 ·refine .inr ⟨⟨hp,hc⟩,?_,?_⟩
  ·show _=PV.tup [.agg (gmO6 (xtR g t n)),.i .i64 (xtC g t n)]
   unfold xtR;rw [if_neg hc]
  ·show _=gmH6 (xtR g t n)
   unfold xtR;rw [if_neg hc]
end Ax
end Go.Proofs.YtghmphmbpdiflaaGreatDoor
