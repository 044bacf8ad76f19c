/-
  A challenge that may not be made, of the spec package; both joined; Actions: which are valid, what they lead to, of the spec package; How a game ends, of the impl package; Facts of a turn with a play; How long things are whose size is common; Records: bags shuffled, the beginning of a game, the states that a record leads to; Valid games stay valid: passes and exchanges; a game begun is valid; Valid games stay valid: plays; Racks stay full where the bag is not empty; Valid games stay valid: plays taken back, challenges; What an action leads to is no longer than what it began with; Records, of the spec package: bags shuffled, beginnings; Records, of the spec package: which are valid, beginnings, runs; The plain walker: a function that defers a call of a closure of its own; the closure's code is walked in place; The plain walker: what a function has made may be told as frozen where its first part ends; Records, of the spec package: what they are worth, the best turn; Drawn setups, plainly: they are valid, and a game begins.
  Conditions: none; the tables of types and of functions are as the program has them.
-/
import Derived.Test.YtjjonmhpgkahoaaGreatDoorS28
import Derived.Test.YtjjonmhpgkahoaaGreatDoorS22
import Derived.Test.YtjjonmhpgkahoaaGreatDoorS24
import Derived.Test.YtjjonmhpgkahoaaGreatDoorS27
import Derived.Test.YtjjonmhpgkahoaaGreatDoorS20
import Derived.Test.YtjjonmhpgkahoaaGreatDoorS21
import Derived.Test.YtjjonmhpgkahoaaGreatDoorS15
import Derived.Test.YtjjonmhpgkahoaaGreatDoorS08
import Derived.Defers
set_option linter.unusedSimpArgs false
set_option linter.unusedVariables false
namespace Go.Proofs.YtjjonmhpgkahoaaGreatDoor
namespace Ax
set_option maxRecDepth 100000
set_option maxHeartbeats 20000000
section
variable {g:Gm} {n:Int}
end
def chR (g:Gm) (n:Int):Gm:=if chC g n=0 then chG g n else gm0
def chP (g:Gm) (n:Int):Int:=if chC g n=0 then vPts g else 0
end Ax
namespace Ax
set_option maxRecDepth 100000
set_option maxHeartbeats 20000000
structure Ac where
 kind:Int
 play:Pl
 tiles:List UInt8
 secs:Int
@[simp] theorem eta_ac (a:Ac):Ac.mk a.kind a.play a.tiles a.secs=a:=rfl
def actB (a:Ac):Bool:=inR a.secs 0 36000&&(if a.kind=1 then plainB a.play&&a.tiles.isEmpty else if a.kind=2 then eqPl a.play pl0&&(!a.tiles.isEmpty&&rackB a.tiles) else if a.kind=3∨a.kind=4 then eqPl a.play pl0&&a.tiles.isEmpty else false)
section
variable {a:Ac}
end
def doG (g:Gm) (a:Ac):Gm:=if a.kind=1 then turnR g a.play a.secs else if a.kind=2 then xtR g a.tiles a.secs else if a.kind=3 then passR g a.secs else chR g a.secs
def doP (g:Gm) (a:Ac):Int:=if a.kind=1 then turnS' g a.play a.secs else if a.kind=2 then 0 else if a.kind=3 then 0 else chP g a.secs
def doC (g:Gm) (a:Ac):Int:=if a.kind=1 then turnC g a.play a.secs else if a.kind=2 then xtC g a.tiles a.secs else if a.kind=3 then actC g a.secs else chC g a.secs
section
variable {g:Gm} {a:Ac}
end
end Ax
namespace Ax
set_option maxRecDepth 100000
set_option maxHeartbeats 2000000
end Ax
namespace Ax
set_option maxRecDepth 100000
set_option maxHeartbeats 2000000
structure GcL (g:Gm):Prop where
 v:(g.ts.values.length:Int)≤1073741824
 c:(g.ts.counts.length:Int)≤1073741824
 l:(g.lex.length:Int)≤1073741824
 r:(g.racks.length:Int)≤1073741824
 s:(g.scores.length:Int)≤1073741824
 k:(g.clocks.length:Int)≤1073741824
structure PtP (g:Gm) (q:Pl):Prop where
 gm:GmQ g
 wl:(q.word.length:Int)≤1073741824
 cp:GcL g
def pScore (g:Gm) (q:Pl):Int:=scoreI g.ts g.bd q
def pRack (g:Gm) (q:Pl):List UInt8:=frR g.bag (restT g q)
def pBag (g:Gm) (q:Pl):List UInt8:=frB g.bag (restT g q)
def pDrw (g:Gm) (q:Pl):List UInt8:=g.bag.take (tdI g.bag (restT g q)).toNat
def pRks (g:Gm) (q:Pl):List (List UInt8):=g.racks.set g.player.toNat (pRack g q)
def pScs (g:Gm) (q:Pl):List Int:=g.scores.set g.player.toNat (g.sc g.player+pScore g q)
def pClk (g:Gm) (n:Int):List Int:=g.clocks.set g.player.toNat (g.clk g.player-n)
def pCel (g:Gm) (q:Pl):Bd:=madeB g.bd q
def p1 (g:Gm) (q:Pl) (n:Int):Gm:=⟨g.ts,g.lex,g.bd0,g.secs,g.rule,pCel g q,pBag g q,pRks g q,pScs g q,pClk g n,1-g.player,0,⟨1,g.player,q,g.bd.cells,pDrw g q,pScore g q,g.zeros⟩,g.over⟩
section
variable {g:Gm} {q:Pl} {n:Int}
end
end Ax
namespace Ax
set_option maxRecDepth 100000
set_option maxHeartbeats 2000000
structure TsB (n:Int) (t:TS):Prop where
 l:(t.letters.length:Int)≤n
 v:(t.values.length:Int)≤n
 c:(t.counts.length:Int)≤n
structure BdB (n:Int) (b:Bd):Prop where
 p:(b.prem.length:Int)≤n
 c:(b.cells.length:Int)≤n
structure WsB (n:Int) (ws:List (List UInt8)):Prop where
 l:(ws.length:Int)≤n
 w : ∀k:Int,((ws.getD k.toNat []).length : Int)≤n
structure GmB (n:Int) (g:Gm):Prop where
 ts:TsB n g.ts
 lx:WsB n g.lex
 b0:BdB n g.bd0
 bd:BdB n g.bd
 bag:(g.bag.length:Int)≤n
 rk:WsB n g.racks
 sc:(g.scores.length:Int)≤n
 ck:(g.clocks.length:Int)≤n
 wd:(g.last.play.word.length:Int)≤n
 bf:(g.last.before.length:Int)≤n
 dr:(g.last.drawn.length:Int)≤n
theorem GmB.n {n:Int} {g:Gm} (h:GmB n g) (hn:n≤1048576):GmN g:=by
 have:=h.ts.v;have:=h.ts.c;have:=h.lx.l;have:=h.rk.l;have:=h.sc;have:=h.ck
 exact⟨⟨⟨by show (g.ts.values.length:Int)≤_;omega,by show (g.ts.counts.length:Int)≤_;omega⟩,by show (g.lex.length:Int)≤_;omega⟩,by omega,by omega,by omega⟩
theorem bd_p {n:Int} {b:Bd} (h:BdB n b) (hn:n≤1048576):BdP b:=⟨by have:=h.p;omega,by have:=h.c;omega⟩
theorem ts_l {n:Int} {t:TS} (h:TsB n t) (hn:n≤1048576):TsL t:=⟨by have:=h.l;omega,by have:=h.v;omega,by have:=h.c;omega⟩
theorem bef_p {n:Int} {g:Gm} (h:GmB n g) (hn:n≤1048576):BdP g.bef:=⟨by have:=h.bd.p;show g.bd.prem.length≤_;omega,by have:=h.bf;show g.last.before.length≤_;omega⟩
theorem GmB.q {n:Int} {g:Gm} {q:Pl} (h:GmB n g) (hn:n≤1048576) (hq:(q.word.length:Int)≤n):PtP g q:=by
 have h1:=h.ts;have:=h1.v;have:=h1.c;have:=h.lx.l;have:=h.rk.l;have:=h.sc;have:=h.ck;have:=h.wd;have:=h.bag;have:=h.dr
 exact⟨⟨⟨ts_l h.ts hn,⟨by show g.lex.length≤_;omega,fun k=>by have:=h.lx.w k;show (g.lex.getD k.toNat []).length ≤_;omega⟩,bd_p h.b0 hn⟩,bd_p h.bd hn,by omega,fun k=>by have:=h.rk.w k;omega,by omega,by omega,bef_p h hn⟩,by omega,⟨by omega,by omega,by omega,by omega,by omega,by omega⟩⟩
theorem GmB.s {n:Int} {g:Gm} {q:Pl} (h:GmB n g) (hn:n≤1048576) (hq:(q.word.length:Int)≤n):StP' g q:=by
 have h1:=h.ts;have:=h1.v;have:=h1.c;have:=h.lx.l;have:=h.rk.l;have:=h.sc;have:=h.ck;have:=h.wd;have:=h.bag;have:=h.dr
 exact⟨⟨⟨ts_l h.ts hn,⟨by show g.lex.length≤_;omega,fun k=>by have:=h.lx.w (k:Int);rw [Int.toNat_natCast] at this;show (g.lex.getD k []).length ≤_;omega⟩,bd_p h.b0 hn⟩,bd_p h.bd hn,by omega,fun k=>by have:=h.rk.w k;show (g.racks.getD k.toNat []).length ≤_;omega,bef_p h hn,by omega,by omega⟩,by omega,⟨⟨by show g.ts.values.length≤_;omega,by show g.ts.counts.length≤_;omega,by show g.lex.length≤_;omega⟩,by omega,by omega,by omega⟩⟩
end Ax
namespace Ax
set_option maxRecDepth 100000
set_option maxHeartbeats 2000000
def mixN (x:Int):Int:=(x*1103515245+12345)%2147483648
def swp (L:List UInt8) (i k:Nat):List UInt8:=(L.set i (L.getD k 0)).set k (L.getD i 0)
def shufG:Nat→Int→List UInt8→List UInt8
 | 0,_,L=>L
 | i+1,x,L=>shufG i (mixN x) (swp L (i+1) ((mixN x/65536)%((i:Int)+2)).toNat)
def shufL (s:List UInt8) (x:Int):List UInt8:=shufG (s.length-1) x s
theorem swp_len (L:List UInt8) (i k:Nat):(swp L i k).length =L.length:=by unfold swp;rw [List.length_set,List.length_set]
theorem shufG_len : ∀(i:Nat) (x:Int) (L:List UInt8),(shufG i x L).length =L.length
 | 0,_,_=>rfl
 | i+1,x,L=>by rw [shufG,shufG_len,swp_len]
theorem mixN_bd {x:Int} (h:0≤x):0≤mixN x∧mixN x<2147483648:=by unfold mixN;omega
theorem shuf_step {i x:Int} {L:List UInt8} (h:0<i):shufG i.toNat x L=shufG (i-1).toNat (mixN x) (swp L i.toNat ((mixN x/65536)%(i+1)).toNat):=by
 obtain⟨j,rfl⟩ : ∃j:Nat,i=(j:Int)+1:=⟨(i-1).toNat,by omega⟩
 rw [show ((j:Int)+1).toNat =j+1 by omega,show ((j:Int)+1-1).toNat =j by omega,shufG]
 congr 2
theorem swp_count (L:List UInt8) {i k:Nat} (hi:i<L.length) (hk:k<L.length) (c:UInt8):(swp L i k).count c=L.count c:=by
 unfold swp
 rw [List.getD_eq_getElem?_getD,List.getElem?_eq_getElem hk,List.getD_eq_getElem?_getD,List.getElem?_eq_getElem hi,Option.getD_some,Option.getD_some]
 rw [List.count_set (by rw [List.length_set];exact hk),List.count_set hi,List.getElem_set]
 have h1 : ∀j (hj:j<L.length),L[j]=c→0<L.count c:=fun j hj e=>List.count_pos_iff.2 (e ▸ List.getElem_mem hj)
 by_cases e:i=k
 ·subst e
  rw [if_pos rfl]
  by_cases h2:L[i]=c
  ·have:=h1 i hi h2
   simp [h2];omega
  ·simp [h2]
 ·rw [if_neg e]
  by_cases h2:L[i]=c<;>by_cases h3:L[k]=c
  ·have:=h1 i hi h2
   simp [h2,h3];omega
  ·have:=h1 i hi h2
   simp [h2,h3];omega
  ·have:=h1 k hk h3
   simp [h2,h3]
  ·simp [h2,h3]
theorem shufG_count : ∀(i:Nat) (x:Int) (L:List UInt8),0≤x→i<L.length∨i=0→∀c,(shufG i x L).count c=L.count c
 | 0,_,_,_,_,_=>rfl
 | i+1,x,L,hx,hi,c=>by
   have h1:=mixN_bd hx
   have h2:((mixN x/65536)%((i:Int)+2)).toNat < i+2:=by
    have:=Int.emod_nonneg (mixN x/65536) (show (i:Int)+2≠0 by omega)
    have:=Int.emod_lt_of_pos (mixN x/65536) (show 0<(i:Int)+2 by omega)
    omega
   have h3:i+1<L.length:=hi.resolve_right (by omega)
   rw [shufG,shufG_count i _ _ h1.1 (.inl (by rw [swp_len];omega)) c,swp_count L h3 (by omega)]
theorem shufL_count {s:List UInt8} {x:Int} (h:0≤x) (c:UInt8):(shufL s x).count c=s.count c:=by
 unfold shufL
 refine shufG_count _ _ _ h ?_ c
 cases s with
 | nil=>exact .inr rfl
 | cons y l=>exact .inl (by simp)
theorem shufL_len (s:List UInt8) (x:Int):(shufL s x).length =s.length:=shufG_len _ _ _
theorem shufL_all {s:List UInt8} {x:Int} (h:0≤x) {p:UInt8→Bool} (hs:s.all p=true):(shufL s x).all p=true:=by
 rw [List.all_eq_true] at hs ⊢
 intro c hc
 refine hs c (List.count_pos_iff.1 ?_)
 rw [←shufL_count h c]
 exact List.count_pos_iff.2 hc
def bgnG (u:Su) (b:List UInt8):Gm:=⟨u.ts,u.lex,u.bd,u.secs,u.rule,u.bd,b.drop 14,[isort (b.take 7),isort ((b.take 14).drop 7)],[0,0],[u.secs,u.secs],0,0,⟨0,0,⟨0,0,false,[]⟩,[],[],0,0⟩,false⟩
def bgnC (u:Su) (b:List UInt8):Int:=if suB u&&bagB b then (if isort b=allT u.ts then (if b.length<14 then 6 else 0) else 2) else 1
def bgnR (u:Su) (b:List UInt8):Gm:=if bgnC u b=0 then bgnG u b else gm0
@[reducible] def shAc:List AtTy:=[.i .i64,.i .i64,.i .i64,.b,.s,.s,.i .i64]
structure Rcd where
 seed:Int
 acts:List (El shAc)
def acE (x:El shAc):Ac:=⟨x.1,⟨x.2.1,x.2.2.1,x.2.2.2.1,x.2.2.2.2.1⟩,x.2.2.2.2.2.1,x.2.2.2.2.2.2⟩
def rcT (r:Rcd):Bool:=inR r.seed 0 2147483647&&decide (r.acts.length≤200)
def rcA (l:List (El shAc)):Bool:=l.all fun x=>actB (acE x)
def rcB (r:Rcd):Bool:=rcA r.acts&&rcT r
def runR:Gm→List (El shAc)→List Gm×List Int×Int
 | _,[]=>([],[],0)
 | g,x::l=>if doC g (acE x)=0 then (doG g (acE x)::(runR (doG g (acE x)) l).1,doP g (acE x)::(runR (doG g (acE x)) l).2.1,(runR (doG g (acE x)) l).2.2) else ([],[],doC g (acE x))
def bgC (u:Su) (r:Rcd):Int:=if suB u&&rcB r then bgnC u (shufL (allT u.ts) r.seed) else 1
def bgG (u:Su) (r:Rcd):Gm:=bgnG u (shufL (allT u.ts) r.seed)
def crI (u:Su) (r:Rcd):Int:=if bgC u r=0 then (if (runR (bgG u r) r.acts).2.2=0 then -1 else ((runR (bgG u r) r.acts).1.length : Int)) else 0
end Ax
namespace Ax
set_option maxRecDepth 100000
set_option maxHeartbeats 2000000
structure GV (g:Gm):Prop where
 su:setupB g=true
 bd:bdB g.bd=true
 sz:g.bd.size=g.bd0.size
 pm:g.bd.prem=g.bd0.prem
 bag:bagB g.bag=true
 rl:g.racks.length=2
 sl:g.scores.length=2
 kl:g.clocks.length=2
 pl:inR g.player 0 1=true
 ze:inR g.zeros 0 6=true
 s0:sideB g 0=true
 s1:sideB g 1=true
 ti:gameTiles g=allT g.ts
 la:lastOk g=true
 ov:g.over=true∨g.zeros<6
theorem gv_of {g:Gm} (h:gameB g=true):GV g:=by
 unfold gameB shapeB twoB at h
 simp only [Bool.and_eq_true,Bool.or_eq_true,decide_eq_true_eq,beq_iff_eq] at h
 obtain⟨⟨a,b,c,d,e⟩,⟨f,h,i,j,k⟩,⟨l,m⟩,n,o,p⟩:=h
 exact⟨a,b,c,d,e,f,h,i,j,k,l,m,n,o,p⟩
theorem GV.b {g:Gm} (h:GV g):gameB g=true:=by
 unfold gameB shapeB twoB
 simp only [Bool.and_eq_true,Bool.or_eq_true,decide_eq_true_eq,beq_iff_eq]
 exact⟨⟨h.su,h.bd,h.sz,h.pm,h.bag⟩,⟨h.rl,h.sl,h.kl,h.pl,h.ze⟩,⟨h.s0,h.s1⟩,h.ti,h.la,h.ov⟩
theorem in_mk {a b c:Int} (h:b≤a∧a≤c):inR a b c=true:=by simpa [inR] using h
theorem two_l {α:Type} {l:List α} (h:l.length=2) : ∃a b,l=[a,b]:=by
 match l,h with
 | [a,b],_=>exact⟨a,b,rfl⟩
structure GN (g:Gm):Prop where
 su:setupB g=true
 bd:bdB g.bd=true
 sz:g.bd.size=g.bd0.size
 pm:g.bd.prem=g.bd0.prem
 bag:bagB g.bag=true
 rl:g.racks.length=2
 sl:g.scores.length=2
 kl:g.clocks.length=2
 pl:inR g.player 0 1=true
 r0:rackB (g.racks.getD 0 [])=true
 r1:rackB (g.racks.getD 1 [])=true
 c0 : -90000≤g.scores.getD 0 0∧g.scores.getD 0 0≤90000
 c1 : -90000≤g.scores.getD 1 0∧g.scores.getD 1 0≤90000
 k0:inR (g.clocks.getD 0 0) (-36000) 36000=true
 k1:inR (g.clocks.getD 1 0) (-36000) 36000=true
 ti:gameTiles g=allT g.ts
 la:lastOk g=true
 ze:inR g.zeros 0 6=true
theorem GN.v {g:Gm} (h:GN g) (ho:g.over=true∨g.zeros<6):gameB g=true:=by
 refine GV.b ⟨h.su,h.bd,h.sz,h.pm,h.bag,h.rl,h.sl,h.kl,h.pl,h.ze,?_,?_,h.ti,h.la,ho⟩
 ·unfold sideB
  rw [h.r0,h.k0,in_mk (by have:=h.c0;omega)];rfl
 ·unfold sideB
  rw [h.r1,h.k1,in_mk (by have:=h.c1;omega)];rfl
theorem GN.e {g:Gm} (h:GN g):EndP g:=by
 obtain⟨a,b,hr⟩:=two_l h.rl
 obtain⟨x,y,hk⟩:=two_l h.kl
 have h0:=h.r0;have h1:=h.r1;have h2:=in_bd h.k0;have h3:=in_bd h.k1
 have hts:tsB g.ts=true:=by
  have:=h.su
  unfold setupB at this
  simp only [Bool.and_eq_true] at this
  exact this.1
 refine⟨tsB_ok hts,h.rl,h.kl,fun k=>?_,fun k=>?_⟩
 ·unfold Gm.rk
  rw [hr] at h0 h1 ⊢
  rcases hk':k.toNat with _ | _ | n
  ·exact rack_len h0
  ·exact rack_len h1
  ·exact Nat.zero_le _
 ·unfold Gm.clk
  rw [hk] at h2 h3 ⊢
  rcases hk':k.toNat with _ | _ | n
  ·exact h2.1
  ·exact h3.1
  ·show (-36000:Int)≤0;decide
theorem GN.settle {g:Gm} (h:GN g):gameB (settleG g)=true:=by
 have b0:=chg_bd h.e 0
 have b1:=chg_bd h.e 1
 have h0:=h.c0;have h1:=h.c1
 refine GV.b ⟨h.su,h.bd,h.sz,h.pm,h.bag,h.rl,rfl,h.kl,h.pl,h.ze,?_,?_,h.ti,h.la,.inl rfl⟩
 ·unfold sideB
  rw [show (settleG g).racks.getD 0 []=g.racks.getD 0 [] from rfl,show (settleG g).clocks.getD 0 0=g.clocks.getD 0 0 from rfl,h.r0,h.k0,in_mk (a:=(settleG g).scores.getD 0 0) (by
   show -100000≤g.sc 0+chg g 0∧g.sc 0+chg g 0≤100000
   have : g.sc 0=g.scores.getD 0 0:=rfl
   omega)];rfl
 ·unfold sideB
  rw [show (settleG g).racks.getD 1 []=g.racks.getD 1 [] from rfl,show (settleG g).clocks.getD 1 0=g.clocks.getD 1 0 from rfl,h.r1,h.k1,in_mk (a:=(settleG g).scores.getD 1 0) (by
   show -100000≤g.sc 1+chg g 1∧g.sc 1+chg g 1≤100000
   have : g.sc 1=g.scores.getD 1 0:=rfl
   omega)];rfl
structure ActF (g:Gm) (n:Int):Prop where
 v:GV g
 ov:g.over=false
 nb:0≤n∧n≤36000
 ck : -36000≤g.clk g.player-n
 s0 : -50000≤g.sc 0∧g.sc 0≤50000
 s1 : -50000≤g.sc 1∧g.sc 1≤50000
theorem act_f {g:Gm} {n:Int} (h:actC g n=0):ActF g n:=by
 unfold actC at h
 split at h
 ·rename_i h1
  split at h
  ·cases h
  ·rename_i h2
   split at h
   ·rename_i h3
    split at h
    ·rename_i h4
     rw [Bool.and_eq_true] at h3 h4
     exact⟨gv_of h1,by simpa using h2,in_bd h3.1,of_decide_eq_true h3.2,in_bd h4.1,in_bd h4.2⟩
    ·cases h
   ·cases h
 ·cases h
theorem ck_ok {g:Gm} {n:Int} (h:ActF g n):(ckL g n).length =2∧inR ((ckL g n).getD 0 0) (-36000) 36000=true∧inR ((ckL g n).getD 1 0) (-36000) 36000=true:=by
 obtain⟨x,y,hk⟩:=two_l h.v.kl
 have hp:=in_bd h.v.pl
 have h0:=h.v.s0;have h1:=h.v.s1
 unfold sideB at h0 h1
 simp only [Bool.and_eq_true] at h0 h1
 have c:=h.ck
 have n0:=h.nb
 unfold ckL
 have q0:=in_bd h0.2.2;have q1:=in_bd h1.2.2
 unfold Gm.clk at c ⊢
 rw [hk] at c q0 q1 ⊢
 rcases (show g.player=0∨g.player=1 by omega) with e | e<;>rw [e] at c ⊢
 ·have c : -36000≤x-n:=c
  have q0 : -36000≤x∧x≤36000:=q0
  exact⟨rfl,in_mk (by show -36000≤x-n∧x-n≤36000;omega),(by have:=h1.2.2;rw [hk] at this;exact this)⟩
 ·have c : -36000≤y-n:=c
  have q1 : -36000≤y∧y≤36000:=q1
  exact⟨rfl,(by have:=h0.2.2;rw [hk] at this;exact this),in_mk (by show -36000≤y-n∧y-n≤36000;omega)⟩
theorem idle_ok {k p:Int} (hk:k=2∨k=3) (hp:inR p 0 1=true) (g:Gm) (h:g.last=idleL k p):lastOk g=true:=by
 unfold lastOk
 rw [h]
 have h0 : ¬(idleL k p).kind =0:=by show ¬k=0;omega
 have h1:(idleL k p).kind =2∨(idleL k p).kind =3:=hk
 rw [if_neg h0,if_pos h1]
 show (eqLa (idleL k p) (idleL k p)&&inR p 0 1)=true
 rw [hp,Bool.and_true]
 simp [eqLa,eqPl]
theorem idle_gn {g:Gm} {n k:Int} (h:ActF g n) (hk:k=2∨k=3) {r:List (List UInt8)} {b:List UInt8} (hb:bagB b=true) (rl:r.length=2) (r0:rackB (r.getD 0 [])=true) (r1:rackB (r.getD 1 [])=true)
 (ti:isort (((tilesS (lettersS g.bd)++r.getD 0 [])++r.getD 1 [])++b)=allT g.ts):GN (idleG ⟨g.ts,g.lex,g.bd0,g.secs,g.rule,g.bd,b,r,g.scores,g.clocks,g.player,g.zeros,g.last,g.over⟩ k n):=by
 obtain⟨q1,q2,q3⟩:=ck_ok h
 have hp:=in_bd h.v.pl
 have hz:=in_bd h.v.ze
 have ho:=h.v.ov.resolve_left (by rw [h.ov];decide)
 exact⟨h.v.su,h.v.bd,h.v.sz,h.v.pm,hb,rl,h.v.sl,q1,in_mk (by show 0≤1-g.player∧1-g.player≤1;omega),r0,r1,(by have:=h.s0;show -90000≤g.sc 0∧g.sc 0≤90000;omega),(by have:=h.s1;show -90000≤g.sc 1∧g.sc 1≤90000;omega),q2,q3,ti,
  idle_ok hk h.v.pl _ rfl,in_mk (by show 0≤g.zeros+1∧g.zeros+1≤6;omega)⟩
theorem zero_ok {g:Gm} {n k:Int} (h:ActF g n) (hk:k=2∨k=3) {r:List (List UInt8)} {b:List UInt8} (hb:bagB b=true) (rl:r.length=2) (r0:rackB (r.getD 0 [])=true) (r1:rackB (r.getD 1 [])=true)
 (ti:isort (((tilesS (lettersS g.bd)++r.getD 0 [])++r.getD 1 [])++b)=allT g.ts):gameB (zeroG ⟨g.ts,g.lex,g.bd0,g.secs,g.rule,g.bd,b,r,g.scores,g.clocks,g.player,g.zeros,g.last,g.over⟩ k n)=true:=by
 have hg:=idle_gn h hk hb rl r0 r1 ti
 have hz:=in_bd h.v.ze
 have ho:=h.v.ov.resolve_left (by rw [h.ov];decide)
 unfold zeroG
 split
 ·exact hg.settle
 ·rename_i he
  refine hg.v (.inr ?_)
  unfold idleE at he
  simp only [Bool.or_eq_true,beq_iff_eq,not_or] at he
  have:=he.2
  show g.zeros+1<6
  omega
theorem side_r {g:Gm} {k:Nat} (h:sideB g k=true):rackB (g.racks.getD k [])=true:=by
 unfold sideB at h
 rw [Bool.and_eq_true] at h
 exact h.1
theorem pass_ok {g:Gm} {n:Int} (h:actC g n=0):gameB (passR g n)=true:=by
 have hf:=act_f h
 unfold passR
 rw [if_pos h]
 exact zero_ok hf (.inr rfl) hf.v.bag hf.v.rl (side_r hf.v.s0) (side_r hf.v.s1) hf.v.ti
theorem rack_of {s:List UInt8} (h:s.all tileB=true) (h7:s.length≤7):rackB (isort s)=true:=rackB_of (isort_all h) (isort_asc s) (by rw [isort_length];exact h7)
theorem all_app {a b:List UInt8} (h:a.all tileB=true) (k:b.all tileB=true):(a++b).all tileB=true:=by rw [List.all_append,h,k];rfl
theorem all_tk {a:List UInt8} (h:a.all tileB=true) (n:Nat):(a.take n).all tileB=true:=List.all_eq_true.2 fun x hx=>List.all_eq_true.1 h x (List.mem_of_mem_take hx)
theorem all_dp {a:List UInt8} (h:a.all tileB=true) (n:Nat):(a.drop n).all tileB=true:=List.all_eq_true.2 fun x hx=>List.all_eq_true.1 h x (List.mem_of_mem_drop hx)
theorem cnt_td (a:List UInt8) (n:Nat) (c:UInt8):(a.take n).count c+(a.drop n).count c=a.count c:=by rw [←List.count_append,List.take_append_drop]
theorem xt_ok {g:Gm} {t:List UInt8} {n:Int} (h:xtC g t n=0):gameB (xtR g t n)=true:=by
 obtain⟨h1,h2,h3⟩:=xt_act h
 have hf:=act_f (eqI_t h1)
 have ex:=ex_f h3
 unfold xtR
 rw [if_pos h]
 have hta:=(pileB_asc ex.ht).1
 have hba:=bagB_tiles ex.ha
 have hra:=(rackB_asc ex.hb).1
 have hr7:rackB (exR g.bag (g.rk g.player) t)=true:=by
  rw [exR_eq h3]
  have:=exR_len h3
  rw [exR_eq h3,isort_length] at this
  exact rack_of (all_app (takeS_all hra) (all_tk hba _)) this
 have hbag:bagB (exB g.bag (g.rk g.player) t)=true:=by
  unfold bagB
  rw [Bool.and_eq_true,decide_eq_true_eq]
  refine⟨?_,by rw [exB_len h3];exact ex.la.2⟩
  rw [exB_eq h3]
  exact all_app (all_dp hba _) hta
 have hcnt : ∀c,(exR g.bag (g.rk g.player) t).count c+(exB g.bag (g.rk g.player) t).count c=(g.rk g.player).count c+g.bag.count c:=fun c=>by
  have e1:=takeGo_left (g.rk g.player) t (List.isEmpty_iff.1 ex.tk) c
  have e2:=cnt_td g.bag t.length c
  have e3:(takeGo (g.rk g.player) t).1=takeS (g.rk g.player) t:=rfl
  rw [exR_eq h3,exB_eq h3,isort_count,List.count_append,List.count_append]
  rw [e3] at e1
  omega
 obtain⟨x,y,hr⟩:=two_l hf.v.rl
 have hp:=in_bd hf.v.pl
 have ti:=hf.v.ti
 unfold gameTiles at ti
 have r0:=side_r hf.v.s0
 have r1:=side_r hf.v.s1
 refine zero_ok hf (.inl rfl) hbag (by rw [List.length_set];exact hf.v.rl) ?_ ?_ ?_
 ·rw [hr] at r0 ⊢
  rcases (show g.player=0∨g.player=1 by omega) with e | e<;>rw [e] at hr7 ⊢
  ·exact hr7
  ·exact r0
 ·rw [hr] at r1 ⊢
  rcases (show g.player=0∨g.player=1 by omega) with e | e<;>rw [e] at hr7 ⊢
  ·exact r1
  ·exact hr7
 ·rw [←ti]
  refine isort_perm fun c=>?_
  have e1:=hcnt c
  simp only [List.count_append]
  rcases (show g.player=0∨g.player=1 by omega) with e | e
  ·have e2:g.rk g.player=g.racks.getD 0 []:=by rw [e];rfl
   rw [e2] at e1
   rw [hr] at e1
   rw [e2,hr,e]
   show (tilesS (lettersS g.bd)).count c+(exR g.bag x t).count c+y.count c+(exB g.bag x t).count c=(tilesS (lettersS g.bd)).count c+x.count c+y.count c+g.bag.count c
   have e1:(exR g.bag x t).count c+(exB g.bag x t).count c=x.count c+g.bag.count c:=e1
   omega
  ·have e2:g.rk g.player=g.racks.getD 1 []:=by rw [e];rfl
   rw [e2] at e1
   rw [hr] at e1
   rw [e2,hr,e]
   show (tilesS (lettersS g.bd)).count c+x.count c+(exR g.bag y t).count c+(exB g.bag y t).count c=(tilesS (lettersS g.bd)).count c+x.count c+y.count c+g.bag.count c
   have e1:(exR g.bag y t).count c+(exB g.bag y t).count c=y.count c+g.bag.count c:=e1
   omega
theorem bgn_ok {u:Su} {b:List UInt8} (h:bgnC u b=0):gameB (bgnG u b)=true:=by
 unfold bgnC at h
 split at h
 ·rename_i h1
  rw [Bool.and_eq_true] at h1
  obtain⟨hs,hb⟩:=h1
  split at h
  ·rename_i h2
   split at h
   ·cases h
   ·rename_i h3
    have hs':=hs
    unfold suB at hs'
    simp only [Bool.and_eq_true] at hs'
    obtain⟨-, -,q1,q2,q3,q4⟩:=hs'
    have hba:=bagB_tiles hb
    have hbl:=bag_len hb
    have hsc:=in_bd q3
    have sd : ∀r:List UInt8,rackB r=true→(rackB r&&(inR (0:Int) (-100000) 100000&&inR u.secs (-36000) 36000))=true:=fun r hr=>by
     rw [hr,in_mk (a:=u.secs) (by omega)];decide
    refine GV.b ⟨hs,q1,rfl,rfl,?_,rfl,rfl,rfl,by show inR (0:Int) 0 1=true;decide,by show inR (0:Int) 0 6=true;decide,sd _ ?_,sd _ ?_,?_,?_,.inr (by show (0:Int)<6;decide)⟩
    ·unfold bagB
     rw [Bool.and_eq_true,decide_eq_true_eq]
     exact⟨all_dp hba 14,by show (b.drop 14).length ≤120;rw [List.length_drop];omega⟩
    ·exact rack_of (all_tk hba 7) (by rw [List.length_take];omega)
    ·exact rack_of (all_dp (all_tk hba 14) 7) (by rw [List.length_drop,List.length_take];omega)
    ·unfold gameTiles
     rw [show allT (bgnG u b).ts =allT u.ts from rfl,←h2]
     refine isort_perm fun c=>?_
     have e0:lettersS u.bd=[]:=List.isEmpty_iff.1 q2
     simp only [List.count_append]
     show (tilesS (lettersS u.bd)).count c+(isort (b.take 7)).count c+(isort ((b.take 14).drop 7)).count c+(b.drop 14).count c=b.count c
     rw [e0,isort_count,isort_count]
     have e1:=cnt_td b 14 c
     have e2:=cnt_td (b.take 14) 7 c
     rw [List.take_take] at e2
     have e3:(tilesS []).count c=0:=rfl
     rw [show min 7 14=7 from rfl] at e2
     omega
    ·rfl
  ·cases h
 ·cases h
end Ax
namespace Ax
set_option maxRecDepth 100000
set_option maxHeartbeats 2000000
def oneC (c z:UInt8):Nat:=if z=46 then 0 else if blankC z=c then 1 else 0
def cntF (c:UInt8) (s:List UInt8):Nat:=((s.filter fun x=>!(x==46)).map blankC).count c
theorem tiles_cnt (b:Bd) (c:UInt8):(tilesS (lettersS b)).count c=cntF c b.cells:=by unfold tilesS lettersS cntF;rw [isort_count]
theorem cntF_cons (c a:UInt8) (s:List UInt8):cntF c (a::s)=oneC c a+cntF c s:=by
 unfold cntF oneC
 rw [List.filter_cons]
 by_cases h:a=46
 ·subst h;simp
 ·rw [if_pos (by simpa using h),if_neg h,List.map_cons,List.count_cons]
  by_cases h2:blankC a=c
  ·rw [if_pos h2,if_pos (by simpa using h2)];omega
  ·rw [if_neg h2,if_neg (by simpa using h2)];omega
theorem cntF_set (c x:UInt8) : ∀(s:List UInt8) (i:Nat) (y:UInt8),s[i]? =some y→cntF c (s.set i x)+oneC c y=cntF c s+oneC c x
 | [],_,_,h=>by simp at h
 | a::s,0,y,h=>by
   simp at h;subst h
   rw [List.set_cons_zero,cntF_cons,cntF_cons];omega
 | a::s,i+1,y,h=>by
   have:=cntF_set c x s i y (by simpa using h)
   rw [List.set_cons_succ,cntF_cons,cntF_cons];omega
theorem all_set {p:UInt8→Bool} {x:UInt8} (hx:p x=true) : ∀(s:List UInt8) (i:Nat),s.all p=true→(s.set i x).all p=true
 | [],_,h=>h
 | a::s,0,h=>by
   rw [List.all_cons,Bool.and_eq_true] at h
   rw [List.set_cons_zero,List.all_cons,hx,h.2];rfl
 | a::s,i+1,h=>by
   rw [List.all_cons,Bool.and_eq_true] at h
   rw [List.set_cons_succ,List.all_cons,h.1,all_set hx s i h.2];rfl
section
variable {b:Bd} {q:Pl} {g:Gm} {n:Int}
theorem word_at {k:Nat} (hl:lettB q.word=true) (hk:k<q.word.length):(smallB (q.word.getD k 0)||capB (q.word.getD k 0))=true:=by
 unfold lettB at hl
 rw [List.all_eq_true] at hl
 exact hl _ (by rw [List.getD_eq_getElem?_getD,List.getElem?_eq_getElem hk];exact List.getElem_mem hk)
theorem lett_no {x:UInt8} (h:(smallB x||capB x)=true):x≠46∧x≠0:=by
 refine⟨fun e=>?_,fun e=>?_⟩<;>· subst e;revert h;decide
theorem made_cells (hb:b.cells.all cellB=true) (hl:lettB q.word=true) : ∀k,k≤q.word.length→(madeTo b q k).all cellB=true
 | 0,_=>hb
 | k+1,h=>by
   rw [made_step]
   refine all_set ?_ _ _ (made_cells hb hl k (by omega))
   have:=word_at hl (show k<q.word.length by omega)
   unfold cellB
   rw [Bool.or_assoc,this,Bool.or_true]
theorem made_bd (hb:bdB b=true) (hl:lettB q.word=true):bdB (madeB b q)=true:=by
 unfold bdB at hb ⊢
 simp only [Bool.and_eq_true,decide_eq_true_eq] at hb ⊢
 obtain⟨h1,h2,h3,h4⟩:=hb
 have h5:(madeTo b q q.word.length).length =b.cells.length:=made_len b q _
 have hcp:b.cells.length=b.prem.length:=by omega
 refine⟨h1,h2,by show ((madeTo b q q.word.length).length : Int)=_;rw [h5];exact h3,?_⟩
 rw [okFrom_eq _ _ hcp,Bool.and_eq_true] at h4
 show okFrom (madeTo b q q.word.length) b.prem=true
 rw [okFrom_eq _ _ (by rw [h5];exact hcp),h4.1,made_cells h4.2 hl _ (Nat.le_refl _)]
 rfl
theorem made_cnt (hb:bdB b=true) (hv:validI b q=true) (c:UInt8) : ∀k,k≤q.word.length→cntF c (madeTo b q k)=cntF c b.cells+(((newTo b q k).map fun i=>q.word.getD i 0).map blankC).count c
 | 0,_=>rfl
 | k+1,h=>by
   have ih:=made_cnt hb hv c k (by omega)
   obtain⟨hon,hl, -, -⟩:=validI_facts hv
   have hf:=bdB.fit hb
   have hin:=hon k (by omega)
   have hin':=hin
   rw [inB_iff] at hin'
   have hm:=mul_bounds hf.lo hf.hi hin'.1.1 hin'.1.2 hin'.2.1 hin'.2.2
   have hidx:idxOf b q k<(madeTo b q k).length :=by rw [made_len];have:=hf.cells;unfold idxOf;omega
   have hold:(madeTo b q k).getD (idxOf b q k) 0=cellQ b q k:=by
    rw [made_other b q _ k fun i hi e=>?_]
    ·unfold cellQ
     rw [cell_in hin];rfl
    ·have:=idx_nat hf (hon i (by omega)) hin e
     unfold Pl.sr Pl.sc at this
     cases hd:q.down<;>simp only [hd,Bool.false_eq_true,if_false,if_true] at this<;>omega
   have hget:(madeTo b q k)[idxOf b q k]? =some (cellQ b q k):=by
    rw [List.getElem?_eq_getElem hidx,←hold,List.getD_eq_getElem?_getD,List.getElem?_eq_getElem hidx];rfl
   have hs:=cntF_set c (q.word.getD k 0) _ _ _ hget
   have hw:=lett_no (word_at hl (show k<q.word.length by omega))
   have hfit:fitQ b q k=true:=by
    unfold validI at hv
    simp only [Bool.and_eq_true] at hv
    have:=hv.1.2
    unfold fitTo at this
    exact List.all_eq_true.1 this k (List.mem_range.2 (by omega))
   have hone:oneC c (q.word.getD k 0)=[blankC (q.word.getD k 0)].count c:=by
    unfold oneC
    rw [if_neg hw.1,List.count_cons,List.count_nil]
    by_cases h2:blankC (q.word.getD k 0)=c
    ·rw [if_pos h2,if_pos (by simpa using h2)]
    ·rw [if_neg h2,if_neg (by simpa using h2)]
   rw [made_step]
   unfold newTo at ih ⊢
   rw [List.range_succ,List.filter_append,List.map_append,List.map_append,List.count_append]
   unfold fitQ at hfit
   rw [Bool.or_eq_true,beq_iff_eq,beq_iff_eq] at hfit
   rcases hfit with e | e
   ·have hlet:b.let_ (q.sr k) (q.sc k)=false:=by
     unfold Bd.let_
     rw [show b.cell (q.sr k) (q.sc k)=46 from e];rfl
    have e2 : [k].filter (fun i:Nat=>!b.let_ (q.sr i) (q.sc i))=[k]:=by simp [hlet]
    rw [e2]
    rw [e] at hs
    have e3:oneC c 46=0:=rfl
    rw [e3,hone] at hs
    show _=_+(_ + [blankC (q.word.getD k 0)].count c)
    omega
   ·have hlet:b.let_ (q.sr k) (q.sc k)=true:=by
     unfold Bd.let_
     rw [show b.cell (q.sr k) (q.sc k)=q.word.getD k 0 from e,beq_eq_false_iff_ne.2 hw.1,beq_eq_false_iff_ne.2 hw.2]
     rfl
    have e2 : [k].filter (fun i:Nat=>!b.let_ (q.sr i) (q.sc i))=[]:=by simp [hlet]
    rw [e2]
    rw [e] at hs
    show _=_+(_+0)
    omega
theorem made_tiles (hb:bdB b=true) (hv:validI b q=true) (c:UInt8):(tilesS (lettersS (madeB b q))).count c=(tilesS (lettersS b)).count c+(tilesS (placedI b q)).count c:=by
 rw [tiles_cnt,tiles_cnt]
 show cntF c (madeTo b q q.word.length)=_
 rw [made_cnt hb hv c _ (Nat.le_refl _)]
 congr 1
 unfold tilesS placedI newL
 rw [isort_count]
structure TrnF (g:Gm) (q:Pl) (n:Int):Prop where
 a:ActF g n
 v:validI g.bd q=true
 w:withoutB (g.rk g.player) (tilesP (placedI g.bd q))=true
 hi:scoreI g.ts g.bd q≤20000∧g.sc g.player+scoreI g.ts g.bd q≤50000
 lo:0≤scoreI g.ts g.bd q
theorem trn_f (hc:turnC g q n=0):TrnF g q n:=by
 obtain⟨h1,h2,h3⟩:=sturn_of hc
 have ha:=act_f (eqI_t h1)
 have hlo:=h3.sc.1
 unfold scoreV at hlo
 have hss:scoreS g.ts (flatB g.bd q) (flatP q)=scoreI g.ts g.bd q:=score_same ha.v.bd h3.v
 rw [hss] at hlo
 refine⟨ha,h3.v,h3.w,?_,hlo⟩
 unfold turnC at hc
 rw [if_pos (eqI_t h1)] at hc
 split at hc
 ·cases hc
 ·split at hc
  ·rename_i h6;exact absurd hc h6.1
  ·split at hc
   ·cases hc
   ·rename_i h7
    rw [not_or] at h7
    omega
theorem rk_at {g:Gm} (h:GV g) (i:Nat) (hi:i<2):rackB (g.racks.getD i [])=true:=by
 rcases (show i=0∨i=1 by omega) with rfl | rfl
 ·exact side_r h.s0
 ·exact side_r h.s1
theorem rk_me (h:GV g):rackB (g.rk g.player)=true:=by
 have:=in_bd h.pl
 exact rk_at h g.player.toNat (by omega)
theorem rest_cnt (h:TrnF g q n) (c:UInt8):(restT g q).count c+(tilesS (placedI g.bd q)).count c=(g.rk g.player).count c:=by
 have hr:=rk_me h.a.v
 have hb:=h.a.v.bd
 obtain⟨hon,hl, -, -⟩:=validI_facts h.v
 have e1:=rest_spec hb hr h.v h.w
 rw [placed_new hb hon] at e1
 have e2:takeB (g.rk g.player) (tilesS (placedI g.bd q))=true:=by rw [take_less hr (placedI_lett hl)];exact h.w
 have e3:=takeGo_left (g.rk g.player) (tilesS (placedI g.bd q)) (List.isEmpty_iff.1 e2) c
 have e4:(takeGo (g.rk g.player) (tilesS (placedI g.bd q))).1=takeS (g.rk g.player) (tilesS (placedI g.bd q)):=rfl
 rw [e4,e1] at e3
 exact e3
theorem rest_len (h:TrnF g q n):(restT g q).length + (newL g.bd q).length =(g.rk g.player).length :=by
 have hr:=rk_me h.a.v
 have hb:=h.a.v.bd
 obtain⟨hon,hl, -, -⟩:=validI_facts h.v
 have e1:=rest_spec hb hr h.v h.w
 rw [placed_new hb hon] at e1
 have e2:takeB (g.rk g.player) (tilesS (placedI g.bd q))=true:=by rw [take_less hr (placedI_lett hl)];exact h.w
 have e3:=takeS_len e2
 rw [e1] at e3
 rw [←e3]
 congr 1
 unfold tilesS placedI
 rw [isort_length,List.length_map,List.length_map]
def FullR (g:Gm):Prop:=g.bag=[]∨((g.racks.getD 0 []).length =7∧(g.racks.getD 1 []).length =7)
theorem drw_le (h:TrnF g q n) (hf:FullR g):(g.bag.take (drawN g.bag (restT g q))).length ≤(newL g.bd q).length ∧(restT g q).length + (g.bag.take (drawN g.bag (restT g q))).length ≤7:=by
 have h1:=rest_len h
 have h7:=rackB_len (rk_me h.a.v)
 have hp:=in_bd h.a.v.pl
 rw [List.length_take]
 unfold drawN
 rcases hf with e | ⟨e0,e1⟩
 ·rw [e];simp;omega
 ·have e2:(g.rk g.player).length =7:=by
   unfold Gm.rk
   rcases (show g.player=0∨g.player=1 by omega) with e | e<;>rw [e]
   ·exact e0
   ·exact e1
  omega
theorem rk_new {r:List (List UInt8)} {i:Nat} {x:List UInt8} (hr:r.length=2) (hi:i<2) {P:List UInt8→Prop} (h0:P (r.getD 0 [])) (h1:P (r.getD 1 [])) (hx:P x):P ((r.set i x).getD 0 [])∧P ((r.set i x).getD 1 []):=by
 obtain⟨a,b,rfl⟩:=two_l hr
 rcases (show i=0∨i=1 by omega) with rfl | rfl
 ·exact⟨hx,h1⟩
 ·exact⟨h0,hx⟩
theorem sc_new {r:List Int} {i:Nat} {x:Int} (hr:r.length=2) (hi:i<2) {P:Int→Prop} (h0:P (r.getD 0 0)) (h1:P (r.getD 1 0)) (hx:P x):P ((r.set i x).getD 0 0)∧P ((r.set i x).getD 1 0):=by
 obtain⟨a,b,rfl⟩:=two_l hr
 rcases (show i=0∨i=1 by omega) with rfl | rfl
 ·exact⟨hx,h1⟩
 ·exact⟨h0,hx⟩
theorem cnt2 {r:List (List UInt8)} {i:Nat} {x:List UInt8} (hr:r.length=2) (hi:i<2) (c:UInt8):((r.set i x).getD 0 []).count c+((r.set i x).getD 1 []).count c+(r.getD i []).count c=(r.getD 0 []).count c+(r.getD 1 []).count c+x.count c:=by
 obtain⟨a,b,rfl⟩:=two_l hr
 rcases (show i=0∨i=1 by omega) with rfl | rfl
 ·show x.count c+b.count c+a.count c=a.count c+b.count c+x.count c;omega
 ·show a.count c+x.count c+b.count c=a.count c+b.count c+x.count c;omega
theorem turn_gn (h:TrnF g q n) (hf:FullR g):GN (turn1 g q n):=by
 have hv:=h.a.v
 have hp:=in_bd hv.pl
 have hi:g.player.toNat<2:=by omega
 have hz:=in_bd hv.ze
 have ho:=hv.ov.resolve_left (by rw [h.a.ov];decide)
 obtain⟨hon,hl, -,h12⟩:=validI_facts h.v
 obtain⟨q1,q2,q3⟩:=ck_ok h.a
 have hba:=bagB_tiles hv.bag
 obtain⟨d1,d2⟩:=drw_le h hf
 have hrs:=(restT_ok hv.bd (rk_me hv) h.v h.w).1
 have hdr:(g.bag.take (drawN g.bag (restT g q))).all tileB=true:=all_tk hba _
 have hnr:rackB (isort (restT g q++g.bag.take (drawN g.bag (restT g q))))=true:=rack_of (all_app hrs hdr) (by rw [List.length_append];exact d2)
 obtain⟨r0,r1⟩:=rk_new (i:=g.player.toNat) hv.rl hi (P:=fun r=>rackB r=true) (side_r hv.s0) (side_r hv.s1) hnr
 have hsc:=h.hi;have hlo:=h.lo
 have s0:=h.a.s0;have s1:=h.a.s1
 have hsp : -50000≤g.sc g.player:=by
  rcases (show g.player=0∨g.player=1 by omega) with e | e<;>rw [e]
  ·exact s0.1
  ·exact s1.1
 obtain⟨c0,c1⟩:=sc_new (i:=g.player.toNat) (x:=g.sc g.player+scoreI g.ts g.bd q) hv.sl hi (P:=fun x=> -90000≤x∧x≤90000) (by have : g.scores.getD 0 0=g.sc 0:=rfl;omega) (by have : g.scores.getD 1 0=g.sc 1:=rfl;omega) (by omega)
 refine⟨hv.su,made_bd hv.bd hl,hv.sz,hv.pm,?_,by show (g.racks.set _ _).length =2;rw [List.length_set];exact hv.rl,by show (g.scores.set _ _).length =2;rw [List.length_set];exact hv.sl,q1,in_mk (by show 0≤1-g.player∧1-g.player≤1;omega),r0,r1,c0,c1,q2,q3,?_,?_,by show inR (0:Int) 0 6=true;decide⟩
 ·unfold bagB
  rw [Bool.and_eq_true,decide_eq_true_eq]
  refine⟨all_dp hba _,?_⟩
  have:=bag_len hv.bag
  show (g.bag.drop _).length ≤120
  rw [List.length_drop];omega
 ·have ti:=hv.ti
  unfold gameTiles at ti ⊢
  rw [show allT (turn1 g q n).ts =allT g.ts from rfl,←ti]
  refine isort_perm fun c=>?_
  simp only [List.count_append]
  have e1:=made_tiles hv.bd h.v c
  have e2:=rest_cnt h c
  have e3:=cnt2 (x:=isort (restT g q++g.bag.take (drawN g.bag (restT g q)))) hv.rl hi c
  have e4:=cnt_td g.bag (drawN g.bag (restT g q)) c
  rw [isort_count,List.count_append] at e3
  have e5:g.racks.getD g.player.toNat []=g.rk g.player:=rfl
  rw [e5] at e3
  show (tilesS (lettersS (madeB g.bd q))).count c+((g.racks.set g.player.toNat (isort (restT g q++g.bag.take (drawN g.bag (restT g q))))).getD 0 []).count c+((g.racks.set g.player.toNat (isort (restT g q++g.bag.take (drawN g.bag (restT g q))))).getD 1 []).count c+(g.bag.drop (drawN g.bag (restT g q))).count c=_
  omega
 ·have hk:lastOk (turn1 g q n)=playOk (turn1 g q n):=rfl
  rw [hk]
  have hbef:(turn1 g q n).bef =g.bd:=rfl
  have hrk:(turn1 g q n).rk g.player=isort (restT g q++g.bag.take (drawN g.bag (restT g q))):=by
   show (g.racks.set g.player.toNat _).getD g.player.toNat []=_
   rw [List.getD_eq_getElem?_getD,List.getElem?_set_self (by rw [hv.rl];exact hi)];rfl
  unfold playOk
  rw [hbef]
  show (g.player==1-(1-g.player)&&(okB g.bd q&&(inR g.zeros 0 5&&((0:Int)==0&&(bagB (g.bag.take (drawN g.bag (restT g q)))&&(takeB ((turn1 g q n).rk g.player) (isort (g.bag.take (drawN g.bag (restT g q))))&&(decide ((freshL (flatB g.bd q) (flatP q)).length ≤7)&&
   (decide ((g.bag.take (drawN g.bag (restT g q))).length ≤(freshL (flatB g.bd q) (flatP q)).length)&&(decide ((((turn1 g q n).rk g.player).length : Int)-(g.bag.take (drawN g.bag (restT g q))).length + (freshL (flatB g.bd q) (flatP q)).length ≤7)&&
   (eqBd (madeS g.bd q) (madeB g.bd q)&&(scoreI g.ts g.bd q==scoreS g.ts (flatB g.bd q) (flatP q)&&decide (scoreI g.ts g.bd q≤20000))))))))))))=true
  rw [hrk,fresh_new hv.bd hon,madeS_eq hv.bd h.v,show scoreS g.ts (flatB g.bd q) (flatP q)=scoreI g.ts g.bd q from score_same hv.bd h.v,okB_validI hv.bd,h.v]
  have hrl:=rest_len h
  have h7:=rackB_len (rk_me hv)
  have t1:takeB (isort (restT g q++g.bag.take (drawN g.bag (restT g q)))) (isort (g.bag.take (drawN g.bag (restT g q))))=true:=by
   unfold takeB
   rw [List.isEmpty_iff]
   refine (takeGo_count _ _ (isort_asc _) (isort_asc _)).2 fun c=>?_
   rw [isort_count,isort_count,List.count_append];omega
  have t2:bagB (g.bag.take (drawN g.bag (restT g q)))=true:=by
   unfold bagB
   rw [hdr,Bool.true_and,decide_eq_true_eq]
   have:=bag_len hv.bag
   rw [List.length_take];omega
  rw [t1,t2]
  simp only [Bool.and_eq_true,decide_eq_true_eq,beq_iff_eq,isort_length,List.length_append]
  refine⟨by omega,trivial,in_mk (by omega),trivial,trivial,trivial,by omega,d1,by omega,by simp [eqBd],trivial,hsc.1⟩
theorem turn_ok (hc:turnC g q n=0) (hf:FullR g):gameB (turnR g q n)=true:=by
 have h:=turn_gn (trn_f hc) hf
 unfold turnR
 rw [if_pos hc]
 unfold turnG
 split
 ·exact h.settle
 ·exact h.v (.inr (by show (0:Int)<6;decide))
end
end Ax
namespace Ax
set_option maxRecDepth 100000
set_option maxHeartbeats 2000000
section
variable {g:Gm} {q:Pl} {n k:Int} {t b:List UInt8} {u:Su}
theorem full_zero (h:FullR g):FullR (zeroG g k n):=by
 unfold zeroG
 split
 ·exact h
 ·exact h
theorem full_pass (hc:actC g n=0) (h:FullR g):FullR (passR g n):=by
 unfold passR
 rw [if_pos hc]
 exact full_zero h
theorem exR_len2 (h:exC b t q.word=0):(exR b t q.word).length =t.length:=by
 have hf:=ex_f h
 have:=hf.la;have:=hf.lb;have:=hf.lr;have:=hf.lt
 rw [exR_eq h,isort_length,List.length_append,List.length_take];omega
theorem full_xt (hc:xtC g t n=0) (h:FullR g):FullR (xtR g t n):=by
 obtain⟨h1,h2,h3⟩:=xt_act hc
 have hf:=act_f (eqI_t h1)
 have hp:=in_bd hf.v.pl
 unfold xtR
 rw [if_pos hc]
 refine full_zero ?_
 have e1:=exB_len h3
 have e2:(exR g.bag (g.rk g.player) t).length =(g.rk g.player).length :=exR_len2 (q:=⟨0,0,false,t⟩) h3
 rcases h with h | ⟨r0,r1⟩
 ·refine .inl (List.length_eq_zero_iff.1 ?_)
  show (exB g.bag (g.rk g.player) t).length =0
  rw [e1,h];rfl
 ·refine .inr ?_
  have e3:(g.rk g.player).length =7:=by
   unfold Gm.rk
   rcases (show g.player=0∨g.player=1 by omega) with e | e<;>rw [e]
   ·exact r0
   ·exact r1
  exact rk_new (i:=g.player.toNat) hf.v.rl (by omega) (P:=fun r=>r.length=7) r0 r1 (by rw [e2,e3])
theorem full_turn (hc:turnC g q n=0) (h:FullR g):FullR (turnR g q n):=by
 have ht:=trn_f hc
 have hp:=in_bd ht.a.v.pl
 have h1:FullR (turn1 g q n):=by
  rcases h with h | ⟨r0,r1⟩
  ·refine .inl ?_
   show g.bag.drop _=[]
   rw [h,List.drop_nil]
  ·by_cases hd:g.bag.length≤drawN g.bag (restT g q)
   ·refine .inl ?_
    show g.bag.drop _=[]
    exact List.drop_eq_nil_of_le hd
   ·refine .inr ?_
    have h7:=(restT_ok ht.a.v.bd (rk_me ht.a.v) ht.v ht.w).2.1
    refine rk_new (i:=g.player.toNat) ht.a.v.rl (by omega) (P:=fun r=>r.length=7) r0 r1 ?_
    rw [isort_length,List.length_append,List.length_take]
    unfold drawN at hd ⊢
    omega
 unfold turnR
 rw [if_pos hc]
 unfold turnG
 split
 ·exact h1
 ·exact h1
theorem full_bgn (h:bgnC u b=0):FullR (bgnG u b):=by
 unfold bgnC at h
 split at h
 ·split at h
  ·split at h
   ·cases h
   ·rename_i h3
    refine .inr ⟨?_,?_⟩
    ·show (isort (b.take 7)).length =7
     rw [isort_length,List.length_take];omega
    ·show (isort ((b.take 14).drop 7)).length =7
     rw [isort_length,List.length_drop,List.length_take];omega
  ·cases h
 ·cases h
end
end Ax
namespace Ax
set_option maxRecDepth 100000
set_option maxHeartbeats 2000000
theorem repT_sum : ∀(l:List UInt8) (c:List Int),(∀x∈c,0≤x)→((repT l c).length : Int)≤c.sum
 | [],c,h=>by
   have : 0≤c.sum:=by
    induction c with
    | nil=>exact Int.le_refl 0
    | cons x c ih=>
      have h1:=h x (List.mem_cons_self ..)
      have h2:=ih fun y hy=>h y (List.mem_cons_of_mem _ hy)
      rw [List.sum_cons];omega
   simpa [repT] using this
 | _::_,[],_=>by simp [repT]
 | a::l,x::c,h=>by
   have h1:=h x (List.mem_cons_self ..)
   have h2:=repT_sum l c fun y hy=>h y (List.mem_cons_of_mem _ hy)
   rw [repT,List.length_append,List.length_replicate,List.sum_cons]
   omega
theorem allT_120 {t:TS} (h:tsB t=true):(allT t).length ≤120:=by
 obtain⟨h1,h2,h3⟩:=tsB_all h
 have h4 : ∀x∈t.counts,0≤x:=fun x hx=>by
  obtain⟨k,hk⟩:=List.mem_iff_getElem?.1 hx
  have:=h3 k
  rw [List.getD_eq_getElem?_getD,hk] at this
  exact this
 have h5:=repT_sum t.letters t.counts h4
 unfold tsB at h
 simp only [Bool.and_eq_true,decide_eq_true_eq] at h
 have h6:=h.2.2.2.2.2.2
 unfold allT
 rw [List.length_append,List.length_replicate]
 omega
section
variable {g:Gm} {n:Int}
theorem rk_p (h:GV g) {p:Int} (h0:0≤p) (h1:p≤1):rackB (g.rk p)=true:=rk_at h p.toNat (by omega)
end
end Ax
namespace Ax
set_option maxRecDepth 100000
set_option maxHeartbeats 2000000
theorem z0:((([]:List UInt8).length : Nat):Int)≤1048576:=by decide
section
variable {g:Gm} {n:Int}
theorem rks_b {i:Nat} {x:List UInt8} (h:WsB 1048576 g.racks) (hx:(x.length:Int)≤1048576):WsB 1048576 (g.racks.set i x):=
 ⟨by rw [List.length_set];exact h.l,fun k=>setg_bd (P:=fun y:List UInt8=>(y.length:Int)≤1048576) (L:=g.racks) (i:=i) (k:=k.toNat) (d:=[]) hx (h.w k)⟩
theorem ckL_b (h:(g.clocks.length:Int)≤1048576):((ckL g n).length : Int)≤1048576:=by unfold ckL;rw [List.length_set];exact h
theorem setSc_b (g:Gm):((setSc g).length : Int)≤1048576:=by show (2:Int)≤_;decide
theorem turnG_b {q:Pl} (h:GmB 1048576 g) (hc:turnC g q n=0) (hw:(q.word.length:Int)≤1048576):GmB 1048576 (turnG g q n):=by
 obtain⟨ha,hG,hC⟩:=sturn_of hc
 have h7:=rack_len hC.rk
 have hb:=h.bag
 have e:GmB 1048576 (turn1 g q n):=by
  refine⟨h.ts,h.lx,h.b0,⟨h.bd.p,?_⟩,?_,rks_b h.rk ?_,?_,ckL_b h.ck,hw,h.bd.c,?_⟩
  ·show ((madeTo g.bd q q.word.length).length : Int)≤_
   rw [made_len];exact h.bd.c
  ·show ((g.bag.drop _).length : Int)≤_
   rw [List.length_drop];omega
  ·rw [isort_length,List.length_append,List.length_take]
   unfold drawN
   omega
  ·show ((g.scores.set _ _).length : Int)≤_
   rw [List.length_set];exact h.sc
  ·show ((g.bag.take _).length : Int)≤_
   rw [List.length_take];omega
 unfold turnG
 split
 ·exact⟨e.ts,e.lx,e.b0,e.bd,e.bag,e.rk,setSc_b _,e.ck,e.wd,e.bf,e.dr⟩
 ·exact e
theorem zeroG_b {k:Int} (h:GmB 1048576 g):GmB 1048576 (zeroG g k n):=by
 unfold zeroG
 split
 ·exact⟨h.ts,h.lx,h.b0,h.bd,h.bag,h.rk,setSc_b _,ckL_b h.ck,z0,z0,z0⟩
 ·exact⟨h.ts,h.lx,h.b0,h.bd,h.bag,h.rk,h.sc,ckL_b h.ck,z0,z0,z0⟩
theorem xtG_b {t:List UInt8} (h:GmB 1048576 g) (hc:exC g.bag (g.rk g.player) t=0):GmB 1048576 (xtG g t):=by
 have h1:=exB_len hc
 have h2:=exR_len hc
 have hb:=h.bag
 exact⟨h.ts,h.lx,h.b0,h.bd,by show ((exB g.bag (g.rk g.player) t).length : Int)≤_;omega,rks_b h.rk (by omega),h.sc,h.ck,h.wd,h.bf,h.dr⟩
end
end Ax
namespace Ax
set_option maxRecDepth 100000
set_option maxHeartbeats 20000000
structure ShP (s:List UInt8) (x:Int):Prop where
 s:s.length≤1000000
 x:0≤x∧x≤2147483647
theorem sh_m {y:Int} (h:0≤y):std.rem (std.add (std.mul y 1103515245) 12345) 2147483648=mixN y:=rem_nn (by show 0≤y*1103515245+12345;omega)
theorem sh_k {y i:Int} (h:0≤y):std.rem (std.quo (mixN y) 65536) (std.add i 1)=(mixN y/65536)%(i+1):=by
 have:=(mixN_bd h).1
 rw [quo_nn this]
 exact rem_nn (by omega)
theorem sh_b {y i:Int} (hi:0<i):0≤(mixN y/65536)%(i+1)∧(mixN y/65536)%(i+1)<i+1:=⟨Int.emod_nonneg _ (by omega),Int.emod_lt_of_pos _ (by omega)⟩
theorem sh_in {y i n:Int} (y0:0≤y) (hi:0<i) (hn:i<n):std.inL (std.rem (std.quo (std.rem (std.add (std.mul y 1103515245) 12345) 2147483648) 65536) (std.add i 1)) n:=by
 rw [sh_m y0,sh_k y0]
 have h:=sh_b (y:=y) hi
 generalize (mixN y/65536)%(i+1)=z at h ⊢
 exact⟨h.1,by omega⟩
def sp_s_l17Shuffle (p:Pr):FSpec:=fsp (ac aS (a1 aI)) (fun (s,x)=>ShP s x) (fun (s,x)=>.s (shufL s x))
theorem ok_s_l17Shuffle:FOk Tryz.prog 156 (sp_s_l17Shuffle std):=by
 refine FOk.go (c:=cx std [] [] 0) (cx_ok .nil .nil) mixed Tryz.func156 rfl rfl rfl (by kernel_rfl) ?_
 rintro ⟨s,x⟩ hp
 dsimp only at hp
 refine⟨rfl,?_⟩
 obtain⟨H,hH⟩ : ∃H:Hd (Int×Int×List Int),H=⟨fun (y,i,L)=>0≤y∧y≤2147483647∧ -1≤i∧i<1000000∧∃X,L=toBl X∧(X.length:Int)=s.length∧(0≤i→i<X.length)∧shufL s x=shufG i.toNat y X,fun (y,i,L)=>(i+1).toNat,(· < ·)⟩:=⟨_,rfl⟩
 have hl : ∀m n,H.lt m n→m<n:=by subst hH;exact fun _ _ h=>h
 generalize hP:std=p,hB0:shufL=B0
 cbv
 repeat' first
  | (refine fun (_:Unit)=>?_;cbv)
  | (refine Or.inr ⟨16,[],[.s 6 (.i .i64),.s 7 (.i .i64),.o 0 [.i .u8]],[],[],H,rfl,hl,?_,fun ((y,i,L):Int×Int×List Int) hk=>?_⟩<;>cbv)
  | (refine aI2 (fun h=>?_) (fun h=>?_)<;>cbv)
  | (refine aI2 ?_ ?_)
 all_goals subst hP hB0 hH
 all_goals clear hl
 all_goals try dsimp only at hk
 all_goals try dsimp only
 all_goals try exact fin
 ·exact in64 (by show _≤((toBl s).length : Int)-1∧((toBl s).length : Int)-1≤_;rw [toB_len];have:=hp.s;omega)
 ·have h1:=hp.s
  have e:std.sub (std.len (std.toB s)) 1=(s.length:Int)-1:=by show ((toBl s).length : Int)-1=_;rw [toB_len]
  refine⟨hp.x.1,hp.x.2,by show -1≤std.sub (std.len (std.toB s)) 1;rw [e];omega,by show std.sub (std.len (std.toB s)) 1<1000000;rw [e];omega,s,rfl,rfl,fun _=>by show std.sub (std.len (std.toB s)) 1<(s.length:Int);rw [e];omega,?_⟩
  show shufL s x=shufG (std.sub (std.len (std.toB s)) 1).toNat x s
  rw [e]
  unfold shufL
  congr 1
  omega
 all_goals obtain⟨y0,y1,i0,i1,X,rfl,hX,hi,e⟩:=hk
 all_goals try (have hlt:0<i:=lt_of ‹_›)
 all_goals try (have hiX:=hi (by omega);have hkb:=sh_b (y:=y) hlt)
 all_goals try exact (⟨by omega,by show i<((toBl X).length : Int);rw [toB_len];exact hiX⟩:std.inL i (std.len (toBl X)))
 all_goals try exact sh_in y0 hlt (by show i<((toBl X).length : Int);rw [toB_len];exact hiX)
 all_goals try exact sh_in y0 hlt (by show i<(((toBl X).set i.toNat _).length : Int);rw [List.length_set,toB_len];exact hiX)
 ·show 0≤std.rem (std.add (std.mul y 1103515245) 12345) 2147483648∧std.rem (std.add (std.mul y 1103515245) 12345) 2147483648≤2147483647∧ -1≤i-1∧i-1<1000000∧∃Y,std.set (std.set (toBl X) i (std.get 0 (toBl X) (std.rem (std.quo (std.rem (std.add (std.mul y 1103515245) 12345) 2147483648) 65536) (std.add i 1)))) (std.rem (std.quo (std.rem (std.add (std.mul y 1103515245) 12345) 2147483648) 65536) (std.add i 1)) (std.get 0 (toBl X) i)=toBl Y∧(Y.length:Int)=s.length∧(0≤i-1→i-1<(Y.length:Int))∧shufL s x=shufG (i-1).toNat (std.rem (std.add (std.mul y 1103515245) 12345) 2147483648) Y
  rw [sh_m y0,sh_k y0]
  have hm:=mixN_bd y0
  refine⟨hm.1,by omega,by omega,by omega,swp X i.toNat ((mixN y/65536)%(i+1)).toNat,?_,by rw [swp_len];exact hX,fun _=>by rw [swp_len];exact Int.lt_trans (Int.sub_lt_self i (by decide)) hiX,by rw [e,shuf_step hlt]⟩
  show ((toBl X).set i.toNat ((toBl X).getD _ 0)).set _ ((toBl X).getD _ 0)=_
  rw [toB_get,toB_get,toB_set,toB_set];rfl
 ·have : i≤0:=ge_of h
  rw [e,show i.toNat=0 by omega]
  exact toS_toB X
structure SgL (u:Su) (b:List UInt8):Prop where
 su:SuL u
 own:OwnP u
 b:b.length≤274877906944
structure SgY (u:Su) (b:List UInt8):Prop where
 q:SgL u b
 c:bgnC u b=0
structure SgN (u:Su) (b:List UInt8):Prop where
 q:SgL u b
 c:bgnC u b≠0
def sgBag (b:List UInt8):List UInt8:=b.drop 14
def sgRks (b:List UInt8):List (List UInt8):=[isort (b.take 7),isort ((b.take 14).drop 7)]
section
variable {u:Su} {b:List UInt8}
structure SgF (u:Su) (b:List UInt8):Prop where
 su:suB u=true
 bg:bagB b=true
 so:isort b=allT u.ts
 lo:14≤b.length
 hi:b.length≤120
theorem sg_f (h:bgnC u b=0):SgF u b:=by
 unfold bgnC at h
 by_cases h1:(suB u&&bagB b)=true
 ·rw [if_pos h1] at h
  rw [Bool.and_eq_true] at h1
  by_cases h2:isort b=allT u.ts
  ·rw [if_pos h2] at h
   by_cases h3:b.length<14
   ·rw [if_pos h3] at h;exact absurd h (by decide)
   ·exact⟨h1.1,h1.2,h2,by omega,bag_len h1.2⟩
  ·rw [if_neg h2] at h;exact absurd h (by decide)
 ·rw [if_neg h1] at h;exact absurd h (by decide)
theorem sg1 (h:bgnC u b=0) (h2:suB u=false):False:=by have:=(sg_f h).su;rw [h2] at this;cases this
theorem sg2 (h:bgnC u b=0) (h2:bagB b=false):False:=by have:=(sg_f h).bg;rw [h2] at this;cases this
theorem sg3 (h:bgnC u b=0) (h2:std.eqS (isort b) (allT u.ts)=false):False:=by
 have:=(sg_f h).so
 rw [this] at h2
 exact beq_eq_false_iff_ne.1 h2 rfl
theorem sg4 (h:bgnC u b=0) (h2:std.ltI (std.lenS b) 14=true):False:=by
 have:=(sg_f h).lo
 have h3:(b.length:Int)<14:=lt_of h2
 omega
theorem bgnC_std (u:Su) (b:List UInt8):bgnC u b=if suB u&&bagB b then (if std.eqS (isort b) (allT u.ts) then (if std.ltI (std.lenS b) 14 then 6 else 0) else 2) else 1:=by
 unfold bgnC
 have e:(std.ltI (std.lenS b) 14=true)↔b.length<14:=by
  show decide ((b.length:Int)<14)=true↔_
  rw [decide_eq_true_eq];omega
 have e2:(std.eqS (isort b) (allT u.ts)=true)↔isort b=allT u.ts:=beq_iff_eq
 simp only [e,e2]
theorem sg5 (h:bgnC u b≠0) (h1:suB u=true) (h2:bagB b=true) (h3:std.eqS (isort b) (allT u.ts)=true) (h4:std.ltI (std.lenS b) 14=false):False:=by
 apply h
 rw [bgnC_std,h1,h2,h3,h4];rfl
theorem su_all (h:suB u=true):AllP u.ts:=by
 unfold suB at h
 rw [Bool.and_eq_true] at h
 exact (tsB_all h.1).1
end
def sp_s_StartGame_y (p:Pr):FSpec:=fsp (ac (aA aSu) (a1 aS)) (fun (u,b)=>SgY u b) (fun (u,b)=>.tup [.agg (gmK ⟨u.ts,u.lex,u.bd,u.secs,u.rule,⟨u.bd.size,u.bd.prem,u.bd.cells⟩,sgBag b,[],[],[],0,0,⟨0,0,⟨0,0,false,[]⟩,[],[],0,0⟩,false⟩ (.osl 0) (.osl 1) (.osl 2) (.osl 3) (.osl 4) (.osl 5)),.i .i64 0]) (fun (u,b)=>[(0,.own [.i .i64] u.ts.values 2),(1,.own [.i .i64] u.ts.counts 2),(2,.own [.s] u.lex 9),(3,.own [.s] (sgRks b) 9),(4,.own [.i .i64] [0,0] 2),(5,.own [.i .i64] [u.secs,u.secs] 2)])
theorem ok_s_StartGame_y:FOk Tryz.prog 12 (sp_s_StartGame_y std):=by
 refine FOk.go (c:=cx std [(72,sp_s_l18Setup std),(73,sp_s_l17Ok std),(74,sp_s_l03Sort std),(65,sp_s_l02All std),(75,sp_s_l18OwnSetup std)] [] 0) (cx_ok (.cons ok_s_l18Setup (.cons ok_s_l17Ok (.cons ok_s_l03Sort (.cons ok_s_l02All (.cons ok_s_l18OwnSetup .nil))))) .nil) mixed Tryz.func12 rfl rfl rfl (by kernel_rfl) ?_
 rintro ⟨u,b⟩ hp
 dsimp only at hp
 refine⟨rfl,?_⟩
 unfold sp_s_l18Setup sp_s_l17Ok sp_s_l03Sort sp_s_l02All sp_s_l18OwnSetup
 generalize hP:std=p,hB0:suB=B0,hB1:bagB=B1,hB2:isort=B2,hB3:allT=B3,hB4:sgBag=B4,hB5:sgRks=B5
 cbv
 repeat' first
  | (refine fun (_:Unit)=>?_;cbv)
  | (refine aI2 (fun h=>?_) (fun h=>?_)<;>cbv)
  | (refine aI2 ?_ ?_)
  | (refine Or.inl (fun (_:Unit)=>?_);cbv)
 all_goals subst hP hB0 hB1 hB2 hB3 hB4 hB5
 all_goals try (exfalso;exact sg1 hp.c ‹_›)
 all_goals try (exfalso;exact sg2 hp.c ‹_›)
 all_goals try (exfalso;exact sg3 hp.c ‹_›)
 all_goals try (exfalso;exact sg4 hp.c ‹_›)
 all_goals try exact fin
 all_goals have hF:=sg_f hp.c
 all_goals have h1:=hF.lo
 all_goals have h2:=hF.hi
 all_goals first
  | exact hp.q.su
  | exact hp.q.own
  | exact ltM_of hp.q.b
  | exact su_all ‹_›
  | skip
def sp_s_StartGame_n (p:Pr):FSpec:=fsp (ac (aA aSu) (a1 aS)) (fun (u,b)=>SgN u b) (fun (u,b)=>.tup [.agg (gmK gm0 .esl .esl .esl .esl .esl .esl),.i .i64 (bgnC u b)])
theorem ok_s_StartGame_n:FOk Tryz.prog 12 (sp_s_StartGame_n std):=by
 refine FOk.go (c:=cx std [(72,sp_s_l18Setup std),(73,sp_s_l17Ok std),(74,sp_s_l03Sort std),(65,sp_s_l02All std),(75,sp_s_l18OwnSetup std)] [] 0) (cx_ok (.cons ok_s_l18Setup (.cons ok_s_l17Ok (.cons ok_s_l03Sort (.cons ok_s_l02All (.cons ok_s_l18OwnSetup .nil))))) .nil) mixed Tryz.func12 rfl rfl rfl (by kernel_rfl) ?_
 rintro ⟨u,b⟩ hp
 dsimp only at hp
 refine⟨rfl,?_⟩
 unfold sp_s_l18Setup sp_s_l17Ok sp_s_l03Sort sp_s_l02All sp_s_l18OwnSetup
 generalize hP:std=p,hB0:suB=B0,hB1:bagB=B1,hB2:isort=B2,hB3:allT=B3,hB4:bgnC=B4
 cbv
 repeat' first
  | (refine fun (_:Unit)=>?_;cbv)
  | (refine aI2 (fun h=>?_) (fun h=>?_)<;>cbv)
  | (refine aI2 ?_ ?_)
  | (refine Or.inl (fun (_:Unit)=>?_);cbv)
 all_goals subst hP hB0 hB1 hB2 hB3 hB4
 all_goals try (exfalso;exact sg5 hp.c ‹_› ‹_› ‹_› ‹_›)
 all_goals try exact fin
 all_goals first
  | exact hp.q.su
  | exact hp.q.own
  | exact ltM_of hp.q.b
  | exact su_all ‹_›
  | (rw [bgnC_std];simp only [*]<;>simp;done)
  | skip
end Ax
namespace Ax
set_option maxRecDepth 100000
set_option maxHeartbeats 20000000
section
variable {r:Rcd} {u:Su} {k:Int}
@[simp] theorem eta_rcd (r:Rcd):Rcd.mk r.seed r.acts=r:=rfl
@[simp] theorem eta_suw (u:Su):Su.mk u.ts u.lex u.bd u.secs u.rule=u:=rfl
end
def sp_s_StartGame (p:Pr):FSpec:=fsp (ac (aA aSu) (a1 aS)) (fun (u,b)=>SgL u b) (fun (u,b)=>.tup [.agg (gmO6 (bgnR u b)),.i .i64 (bgnC u b)]) (fun (u,b)=>gmH6 (bgnR u b))
def spSgN (p:Pr):FSpec:=fsp (ac (aA aSu) (a1 aS)) (fun (u,b)=>SgN u b) (fun (u,b)=>.tup [.agg (gmO6 gm0),.i .i64 (bgnC u b)]) (fun _=>gmH6 gm0)
theorem okSgN:FOk Tryz.prog 12 (spSgN std):=FOk.own ok_s_StartGame_n rfl fun ⟨u,b⟩ w e v h hr=>
 tup_fol (.cons (agg_fol (esl_fol h)) (.cons (fun _ h=>h) .nil)) v hr
theorem ok_s_StartGame:FOk Tryz.prog 12 (sp_s_StartGame std):=FOk.casesE ok_s_StartGame_y okSgN fun ⟨u,b⟩ hp=>by
 by_cases hc:bgnC u b=0
 ·have e:bgnG u b=bgnR u b:=(if_pos hc).symm
  refine .inl ⟨⟨hp,hc⟩,?_,?_⟩
  ·show _=PV.tup [.agg (gmO6 (bgnR u b)),.i .i64 (bgnC u b)]
   rw [hc,←e];rfl
  ·show _=gmH6 (bgnR u b)
   rw [←e];rfl
 ·refine .inr ⟨⟨hp,hc⟩,?_,?_⟩
  ·show _=PV.tup [.agg (gmO6 (bgnR u b)),.i .i64 (bgnC u b)]
   unfold bgnR;rw [if_neg hc]
  ·show _=gmH6 (bgnR u b)
   unfold bgnR;rw [if_neg hc]
def sp_s_StartGameF (p:Pr):FSpec:=fsp (ac (aA aSu) (a1 aS)) (fun (u,b)=>SgL u b) (fun (u,b)=>.tup [.agg (gmR (bgnR u b)),.i .i64 (bgnC u b)])
theorem ok_s_StartGameF:FOk Tryz.prog 12 (sp_s_StartGameF std):=FOk.frz ok_s_StartGame fun ⟨u,b⟩=>by
 refine⟨?_,?_⟩
 ·simp [deep,deeps,AH.get,gmH6,gmO6,gmK,gmR]
 ·simp [PV.idIn,idInL,gmK,gmR]
@[reducible] def shG:List AtTy:=[.s,.r [.i .i64],.r [.i .i64],.i .i64,.r [.s],.i .i64,.s,.s,.i .i64,.i .i64,.i .i64,.s,.s,.s,.r [.s],.r [.i .i64],.r [.i .i64],.i .i64,.i .i64,.i .i64,.i .i64,.i .i64,.i .i64,.b,.s,.s,.s,.i .i64,.i .i64,.b]
section
variable {g x:Gm} {r:Rcd} {k:Int} {L:List (El shG)} {P:List Int}
end
@[reducible] def ruV:List LV:=LV.s 9 (.i .i64)::LV.o 1 shG::LV.o 2 [.i .i64]::LV.c 0 0 .s ::LV.c 0 1 (.r [.i .i64])::LV.c 0 2 (.r [.i .i64])::LV.c 0 3 (.i .i64)::LV.c 0 4 (.r [.s])::LV.c 0 5 (.i .i64)::LV.c 0 6 .s ::LV.c 0 7 .s ::LV.c 0 8 (.i .i64)::LV.c 0 9 (.i .i64)::LV.c 0 10 (.i .i64)::LV.c 0 11 .s ::LV.c 0 12 .s ::LV.c 0 13 .s ::LV.c 0 14 (.r [.s])::LV.c 0 15 (.r [.i .i64])::LV.c 0 16 (.r [.i .i64])::LV.c 0 17 (.i .i64)::LV.c 0 18 (.i .i64)::LV.c 0 19 (.i .i64)::LV.c 0 20 (.i .i64)::LV.c 0 21 (.i .i64)::LV.c 0 22 (.i .i64)::LV.c 0 23 .b ::LV.c 0 24 .s ::LV.c 0 25 .s ::LV.c 0 26 .s ::LV.c 0 27 (.i .i64)::LV.c 0 28 (.i .i64)::LV.c 0 29 .b ::[]
end Ax
namespace Ax
open Go.RowKit
section
variable {P:Program} {c:Cx} {w w' w0:World} {e e':Env} {fz:Nat→Prop} {M:Root} {st st':AS} {a a':Act}
def AEx.of:AEx→Exit
 | .normal =>.normal
 | .exit k=>.exit k
 | .ret =>.ret
end
end Ax
namespace Ax
open Go.RowKit
section
variable {P:Program} {c:Cx} {w w0:World} {e:Env} {fz:Nat→Prop} {M:Root} {st:AS} {a:Act} {f:FuncId}
theorem idIn_get : ∀{l:List PV} {K:List Nat} {t:Nat} {p:PV},idInL K l=true→l[t]? =some p→p.idIn K=true
 | [],_,_,_,_,h=>by simp at h
 | q::r,K,0,p,hi,h=>by
   unfold idInL at hi
   rw [Bool.and_eq_true] at hi
   simp only [List.getElem?_cons_zero,Option.some.injEq] at h
   exact h ▸ hi.1
 | q::r,K,t+1,p,hi,h=>by
   unfold idInL at hi
   rw [Bool.and_eq_true] at hi
   exact idIn_get hi.2 (by simpa using h)
end
end Ax
namespace Ax
set_option maxRecDepth 100000
set_option maxHeartbeats 20000000
structure SuB (n:Int) (u:Su):Prop where
 ts:TsB n u.ts
 lx:WsB n u.lex
 bd:BdB n u.bd
section
variable {u:Su} {r:Rcd}
theorem bgn_b {b:List UInt8} (h:SuB 1048576 u) (hb:b.length≤1000):GmB 1048576 (bgnG u b):=by
 refine⟨h.ts,h.lx,h.bd,h.bd,?_,⟨by show ((2:Nat):Int)≤_;decide,fun k=>?_⟩,by show ((2:Nat):Int)≤_;decide,by show ((2:Nat):Int)≤_;decide,z0,z0,z0⟩
 ·show ((b.drop 14).length : Int)≤_
  rw [List.length_drop];omega
 ·have e1:(isort (b.take 7)).length ≤1000:=by rw [isort_length,List.length_take];omega
  have e2:(isort ((b.take 14).drop 7)).length ≤1000:=by rw [isort_length,List.length_drop,List.length_take];omega
  show (([isort (b.take 7),isort ((b.take 14).drop 7)].getD k.toNat []).length : Int)≤_
  rcases hk:k.toNat with _ | _ | n
  ·show ((isort (b.take 7)).length : Int)≤_;omega
  ·show ((isort ((b.take 14).drop 7)).length : Int)≤_;omega
  ·exact z0
end
section
variable {u:Su} {r:Rcd}
end
end Ax
namespace Ax
set_option maxRecDepth 100000
set_option maxHeartbeats 2000000
structure DrSu (u:Su):Prop where
 ts:u.ts=smallT∨u.ts=aenT∨u.ts=aerT
 lex:u.lex=allW
 bd:u.bd=stdBd 5∨u.bd=stdBd 7∨u.bd=stdBd 9
 secs:0≤u.secs∧u.secs≤36000
 rule:0≤u.rule∧u.rule≤3
theorem all_short:allW.all (fun x=>decide (x.length≤12))=true:=by decide +kernel
theorem all_n:allW.length=60:=by decide +kernel
theorem small_s:isort (allT smallT)=allT smallT:=by decide +kernel
theorem aen_s:isort (allT aenT)=allT aenT:=by decide +kernel
theorem aer_s:isort (allT aerT)=allT aerT:=by decide +kernel
theorem small_t:(allT smallT).all tileB=true:=by decide +kernel
theorem aen_t:(allT aenT).all tileB=true:=by decide +kernel
theorem aer_t:(allT aerT).all tileB=true:=by decide +kernel
theorem std_l5:(stdBd 5).prem.length =25∧(stdBd 5).cells.length =25:=by decide +kernel
theorem std_l7:(stdBd 7).prem.length =49∧(stdBd 7).cells.length =49:=by decide +kernel
theorem std_l9:(stdBd 9).prem.length =81∧(stdBd 9).cells.length =81:=by decide +kernel
section
variable {u:Su} {x:Int}
theorem DrSu.ok (h:DrSu u):suB u=true:=by
 unfold suB
 have h1:tsB u.ts=true:=by rcases h.ts with e | e | e<;>rw [e]<;>first | exact small_ok | exact aen_ok | exact aer_ok
 have h2:bdB u.bd=true∧lettersS u.bd=[]:=by rcases h.bd with e | e | e<;>rw [e]<;>first | exact std_ok5 | exact std_ok7 | exact std_ok9
 rw [h1,h.lex,all_lex,h2.1,h2.2,in_mk h.secs,in_mk h.rule];rfl
theorem DrSu.all (h:DrSu u):isort (allT u.ts)=allT u.ts∧(allT u.ts).all tileB=true∧14≤(allT u.ts).length ∧(allT u.ts).length ≤30:=by
 rcases h.ts with e | e | e<;>rw [e]
 ·exact⟨small_s,small_t,by rw [small_len];decide,by rw [small_len];decide⟩
 ·exact⟨aen_s,aen_t,by rw [aen_len];decide,by rw [aen_len];decide⟩
 ·exact⟨aer_s,aer_t,by rw [aer_len];decide,by rw [aer_len];decide⟩
theorem DrSu.b (h:DrSu u):SuB 1048576 u:=by
 refine⟨?_,?_,?_⟩
 ·rcases h.ts with e | e | e<;>rw [e]<;>exact⟨by decide,by decide,by decide⟩
 ·rw [h.lex]
  refine⟨by rw [all_n];decide,fun k=>?_⟩
  rw [List.getD_eq_getElem?_getD]
  cases hk:allW[k.toNat]? with
  | none=>exact (by decide:((0:Nat):Int)≤1048576)
  | some y=>
    have h1:=List.all_eq_true.1 all_short y (List.mem_of_getElem? hk)
    have h2:y.length≤12:=of_decide_eq_true h1
    show ((y.length:Nat):Int)≤1048576
    omega
 ·rcases h.bd with e | e | e<;>rw [e]
  ·exact⟨by rw [std_l5.1];decide,by rw [std_l5.2];decide⟩
  ·exact⟨by rw [std_l7.1];decide,by rw [std_l7.2];decide⟩
  ·exact⟨by rw [std_l9.1];decide,by rw [std_l9.2];decide⟩
theorem DrSu.bgn (h:DrSu u) (hx:0≤x):bgnC u (shufL (allT u.ts) x)=0:=by
 obtain⟨h1,h2,h3,h4⟩:=h.all
 have h5:bagB (shufL (allT u.ts) x)=true:=by
  unfold bagB
  rw [shufL_all hx h2,shufL_len,decide_eq_true (by omega)];rfl
 unfold bgnC
 rw [if_pos (by rw [h.ok,h5];rfl),if_pos (by rw [←h1];exact isort_perm fun c=>by rw [shufL_count hx,isort_count]),if_neg (by rw [shufL_len];omega)]
end
end Ax
end Go.Proofs.YtjjonmhpgkahoaaGreatDoor
