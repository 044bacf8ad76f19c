/-
  What a function is given, told by plain things: numbers, boards, plays, tiles, games; The laws package: the sizes of plays, of boards, of games; Small functions of games; Words, tiles, racks, lexicons of the spec package.
  Conditions: none.
-/
import Derived.Test.YtghmphmbpdiflaaGreatDoorE11
import Derived.Test.YtghmphmbpdiflaaGreatDoorE12
set_option linter.unusedSimpArgs false
set_option linter.unusedVariables false
namespace Go.Proofs.YtghmphmbpdiflaaGreatDoor
namespace Ax
def tyI (t k:Nat):Option (FuncId×String):=
 if Nat.beq t 326 then (if Nat.beq k 27 then some (395,"loop.example/g00911/impl.at") else if Nat.beq k 30 then some (396,"loop.example/g00911/impl.cross") else none)
 else if Nat.beq t 325 then (if Nat.beq k 27 then some (393,"loop.example/g00911/impl.at") else if Nat.beq k 30 then some (394,"loop.example/g00911/impl.cross") else none)
 else none
theorem tyI_ok (t:TypeId) (k:Nat) (g:FuncId) (s:String) (h:tyI t k=some (g,s)) (w:World):(nilAhead (Tryz.prog.types.size+Made.depth) t (.agg #[]) s).run Tryz.prog w=.ok (some false) w∧(method (Tryz.prog.types.size+Made.depth) t (.agg #[]) s).run Tryz.prog w=.ok (g,.agg #[]) w:=by
 unfold tyI at h
 split at h
 ·rename_i ht
  have ht:=Nat.eq_of_beq_eq_true ht
  subst ht
  split at h
  ·cases h;exact⟨by kernel_rfl,by kernel_rfl⟩
  ·split at h
   ·cases h;exact⟨by kernel_rfl,by kernel_rfl⟩
   ·cases h
 ·split at h
  ·rename_i ht
   have ht:=Nat.eq_of_beq_eq_true ht
   subst ht
   split at h
   ·cases h;exact⟨by kernel_rfl,by kernel_rfl⟩
   ·split at h
    ·cases h;exact⟨by kernel_rfl,by kernel_rfl⟩
    ·cases h
  ·cases h
abbrev cx (p:Pr) (F:List (FuncId×FSpec)) (M:List (FuncId×MSpec)) (n0:Nat):Cx:=⟨p,tyT,fun f=>assoc f F,fun f=>assoc f M,n0,tyC,tyI,fun _=>none,none,fun _=>false⟩
theorem cx_ok {F:List (FuncId×FSpec)} {M:List (FuncId×MSpec)} {n0:Nat} (h:FTok Tryz.prog F) (k:MTok Tryz.prog M):CxOk Tryz.prog (cx std F M n0):=⟨rfl,ty_ok,h.get,k.get,cm_ok,(fun _ _ h=>by cases h),(fun _ h=>by cases h),tyI_ok⟩
abbrev cxN (p:Pr) (F:List (FuncId×FSpec)) (M:List (FuncId×MSpec)) (N:List (FuncId×NSpec)) (n0:Nat) (U:Option Uf) (Z:List Nat):Cx:=⟨p,tyT,fun f=>assoc f F,fun f=>assoc f M,n0,tyC,tyI,fun f=>assocN f N,U,fun f=>Z.contains f⟩
theorem cxN_ok {F:List (FuncId×FSpec)} {M:List (FuncId×MSpec)} {N:List (FuncId×NSpec)} {n0:Nat} {U:Bool} {Z:List Nat} (h:FTok Tryz.prog F) (k:MTok Tryz.prog M) (l:NTok Tryz.prog N):CxOk Tryz.prog (cxN std F M N n0 (if U then some stdU else none) Z):=⟨rfl,ty_ok,h.get,k.get,cm_ok,l.get,fun q hq=>by cases U<;>cases hq<;>rfl,tyI_ok⟩
theorem mixed:Tryz.prog.follows .mixedOrders =true:=by kernel_rfl
def bdK (b:Bd):List PV:=[.i .i64 b.size,.s b.prem,.s b.cells]
def plK (q:Pl):List PV:=[.i .i64 q.row,.i .i64 q.col,.b q.down,.s q.word]
def tsK (t:TS) (v c:PV):List PV:=[.s t.letters,v,c,.i .i64 t.blanks]
def gmK (g:Gm) (v c l r s k:PV):List PV:=
 [.s g.ts.letters,v,c,.i .i64 g.ts.blanks,l,.i .i64 g.bd0.size,.s g.bd0.prem,.s g.bd0.cells,.i .i64 g.secs,.i .i64 g.rule,.i .i64 g.bd.size,.s g.bd.prem,.s g.bd.cells,.s g.bag,r,s,k,.i .i64 g.player,.i .i64 g.zeros,
   .i .i64 g.last.kind,.i .i64 g.last.player,.i .i64 g.last.play.row,.i .i64 g.last.play.col,.b g.last.play.down,.s g.last.play.word,.s g.last.before,.s g.last.drawn,.i .i64 g.last.score,.i .i64 g.last.zeros,.b g.over]
def gmR (g:Gm):List PV:=gmK g (.rsl [.i .i64] g.ts.values) (.rsl [.i .i64] g.ts.counts) (.rsl [.s] g.lex) (.rsl [.s] g.racks) (.rsl [.i .i64] g.scores) (.rsl [.i .i64] g.clocks)
def bdOf:List PV→Option Bd
 | [.i .i64 a,.s b,.s c]=>some ⟨a,b,c⟩
 | _=>none
def plOf:List PV→Option Pl
 | [.i .i64 a,.i .i64 b,.b c,.s d]=>some ⟨a,b,c,d⟩
 | _=>none
def tsOf:List PV→Option TS
 | [.s a,.rsl [.i .i64] v,.rsl [.i .i64] c,.i .i64 d]=>some ⟨a,v,c,d⟩
 | _=>none
def gmO:List PV→Option (Gm×List PV)
 | [.s a1,v,c,.i .i64 a2,lx,.i .i64 a3,.s a4,.s a5,.i .i64 a6,.i .i64 a7,.i .i64 a8,.s a9,.s b1,.s b2,rk,sc,ck,.i .i64 b3,.i .i64 b4,.i .i64 b5,.i .i64 b6,.i .i64 b7,.i .i64 b8,.b b9,.s c1,.s c2,.s c3,.i .i64 c4,.i .i64 c5,.b c6]=>
   some (⟨⟨a1,[],[],a2⟩,[],⟨a3,a4,a5⟩,a6,a7,⟨a8,a9,b1⟩,b2,[],[],[],b3,b4,⟨b5,b6,⟨b7,b8,b9,c1⟩,c2,c3,c4,c5⟩,c6⟩,[v,c,lx,rk,sc,ck])
 | _=>none
def fillG (g:Gm) (v c:List Int) (l r:List (List UInt8)) (s k:List Int):Gm:={ g with ts:={ g.ts with values:=v,counts:=c },lex:=l,racks:=r,scores:=s,clocks:=k }
def gmOf (l:List PV):Option Gm:=match gmO l with
 | some (g,[.rsl [.i .i64] v,.rsl [.i .i64] c,.rsl [.s] lx,.rsl [.s] rk,.rsl [.i .i64] sc,.rsl [.i .i64] ck])=>some (fillG g v c lx rk sc ck)
 | _=>none
theorem bdOf_eq {l:List PV} {b:Bd} (h:bdOf l=some b):l=bdK b:=by
 unfold bdOf at h
 split at h
 ·cases h;rfl
 ·cases h
theorem plOf_eq {l:List PV} {b:Pl} (h:plOf l=some b):l=plK b:=by
 unfold plOf at h
 split at h
 ·cases h;rfl
 ·cases h
theorem tsOf_eq {l:List PV} {t:TS} (h:tsOf l=some t):l=tsK t (.rsl [.i .i64] t.values) (.rsl [.i .i64] t.counts):=by
 unfold tsOf at h
 split at h
 ·cases h;rfl
 ·cases h
theorem gmO_eq {l:List PV} {g:Gm} {x:List PV} (h:gmO l=some (g,x)) : ∃v c lx rk sc ck,x=[v,c,lx,rk,sc,ck]∧l=gmK g v c lx rk sc ck:=by
 unfold gmO at h
 split at h
 ·cases h;exact⟨_,_,_,_,_,_,rfl,rfl⟩
 ·cases h
theorem gmOf_eq {l:List PV} {g:Gm} (h:gmOf l=some g):l=gmR g:=by
 unfold gmOf at h
 split at h
 ·rename_i hg
  obtain⟨v,c,lx,rk,sc,ck,hx,rfl⟩:=gmO_eq hg
  cases hx
  cases h
  rfl
 ·cases h
@[simp] theorem eta_ts (t:TS):TS.mk t.letters t.values t.counts t.blanks=t:=rfl
@[simp] theorem eta_bd (b:Bd):Bd.mk b.size b.prem b.cells=b:=rfl
@[simp] theorem eta_pl (q:Pl):Pl.mk q.row q.col q.down q.word=q:=rfl
@[simp] theorem eta_la (x:La):La.mk x.kind x.player x.play x.before x.drawn x.score x.zeros=x:=rfl
def aBd:Args Bd:=⟨bdOf,bdK,fun _ _=>bdOf_eq⟩
def aPl:Args Pl:=⟨plOf,plK,fun _ _=>plOf_eq⟩
def aTs:Args TS:=⟨tsOf,fun t=>tsK t (.rsl [.i .i64] t.values) (.rsl [.i .i64] t.counts),fun _ _=>tsOf_eq⟩
def aGm:Args Gm:=⟨gmOf,gmR,fun _ _=>gmOf_eq⟩
def aLex:Args (List (List UInt8)):=a1 aW
def gmH (g:Gm):AH:=[(0,.cells (gmK g (.osl 1) (.osl 2) (.osl 3) (.osl 4) (.osl 5) (.osl 6)) 41),(1,.own [.i .i64] g.ts.values 2),(2,.own [.i .i64] g.ts.counts 2),(3,.own [.s] g.lex 9),(4,.own [.s] g.racks 9),
 (5,.own [.i .i64] g.scores 2),(6,.own [.i .i64] g.clocks 2)]
def hN:Nat×Ob→Option (Nat×List Int)
 | (k,.own [.i .i64] L t)=>if Nat.beq t 2 then some (k,L) else none
 | _=>none
def hW:Nat×Ob→Option (Nat×List (List UInt8))
 | (k,.own [.s] L t)=>if Nat.beq t 9 then some (k,L) else none
 | _=>none
theorem hN_ok {x:Nat×Ob} {k:Nat} {L:List Int} (h:hN x=some (k,L)):x=(k,.own [.i .i64] L 2):=by
 unfold hN at h
 split at h
 ·split at h
  ·rename_i ht
   cases h
   rw [Nat.eq_of_beq_eq_true ht]
  ·cases h
 ·cases h
theorem hW_ok {x:Nat×Ob} {k:Nat} {L:List (List UInt8)} (h:hW x=some (k,L)):x=(k,.own [.s] L 9):=by
 unfold hW at h
 split at h
 ·split at h
  ·rename_i ht
   cases h
   rw [Nat.eq_of_beq_eq_true ht]
  ·cases h
 ·cases h
def hG:Nat×Ob→Option (Gm×List PV)
 | (0,.cells l t)=>if Nat.beq t 41 then gmO l else none
 | _=>none
theorem hG_ok {x:Nat×Ob} {g:Gm} {y:List PV} (h:hG x=some (g,y)) : ∃v c lx rk sc ck,y=[v,c,lx,rk,sc,ck]∧x=(0,.cells (gmK g v c lx rk sc ck) 41):=by
 unfold hG at h
 split at h
 ·split at h
  ·rename_i ht
   obtain⟨v,c,lx,rk,sc,ck,h1,h2⟩:=gmO_eq h
   exact⟨v,c,lx,rk,sc,ck,h1,by rw [h2,Nat.eq_of_beq_eq_true ht]⟩
  ·cases h
 ·cases h
def gmHd:AH→Option Gm
 | [x0,x1,x2,x3,x4,x5,x6]=>match hG x0,hN x1,hN x2,hW x3,hW x4,hN x5,hN x6 with
   | some (g,[.osl 1,.osl 2,.osl 3,.osl 4,.osl 5,.osl 6]),some (1,v),some (2,c),some (3,l),some (4,rk),some (5,sc),some (6,ck)=>some (fillG g v c l rk sc ck)
   | _,_,_,_,_,_,_=>none
 | _=>none
theorem gmHd_ok {H:AH} {g:Gm} (h:gmHd H=some g):H=gmH g:=by
 unfold gmHd at h
 split at h
 ·split at h
  ·rename_i h0 h1 h2 h3 h4 h5 h6
   obtain⟨v,c,lx,rk,sc,ck,q1,rfl⟩:=hG_ok h0
   cases q1
   cases h
   rw [hN_ok h1,hN_ok h2,hW_ok h3,hW_ok h4,hN_ok h5,hN_ok h6]
   rfl
  ·cases h
 ·cases h
def mG {β:Type} (B:Args β):MArgs (Gm×β):=⟨fun H l=>match l with
 | .ptr 0 0::r=>both' (gmHd H) (B.rd r)
 | _=>none,fun a=>gmH a.1,fun a=>.ptr 0 0::B.enc a.2,fun H l a h=>by
   split at h
   ·obtain⟨h1,h2⟩:=both'_ok h
    exact⟨gmHd_ok h1,by rw [B.ok _ _ h2]⟩
   ·cases h⟩
def gmH6 (g:Gm):AH:=[(0,.own [.i .i64] g.ts.values 2),(1,.own [.i .i64] g.ts.counts 2),(2,.own [.s] g.lex 9),(3,.own [.s] g.racks 9),(4,.own [.i .i64] g.scores 2),(5,.own [.i .i64] g.clocks 2)]
def gmO6 (g:Gm):List PV:=gmK g (.osl 0) (.osl 1) (.osl 2) (.osl 3) (.osl 4) (.osl 5)
end Ax
namespace Ax
set_option maxRecDepth 100000
set_option maxHeartbeats 2000000
def sub1 (n k:Int):Int:=if n<0∨n<k then -1 else n-k
def szL (n:Int) (ks:List Int):Int:=ks.foldl sub1 n
theorem szL_app (n:Int) (a b:List Int):szL n (a++b)=szL (szL n a) b:=List.foldl_append ..
theorem szL_neg : ∀(ks:List Int),szL (-1) ks= -1
 | []=>rfl
 | k::r=>by
   show szL (sub1 (-1) k) r= -1
   rw [show sub1 (-1) k= -1 from if_pos (.inl (by decide))]
   exact szL_neg r
theorem sub1_ge (n k:Int) : -1≤sub1 n k:=by unfold sub1;split<;>omega
theorem szL_ge {n:Int} (h : -1≤n) : ∀(ks:List Int), -1≤szL n ks
 | []=>h
 | k::r=>szL_ge (sub1_ge n k) r
theorem szL_le : ∀{ks:List Int} {n:Int},(∀k∈ks,0≤k)→0≤szL n ks→0≤n∧szL n ks≤n∧∀k∈ks,k≤n
 | [],n,_,h=>⟨h,Int.le_refl _,fun k hk=>by cases hk⟩
 | k::r,n,h0,h=>by
   have h1:szL n (k::r)=szL (sub1 n k) r:=rfl
   rw [h1] at h ⊢
   obtain⟨h2,h3,h4⟩:=szL_le (fun x hx=>h0 x (List.mem_cons_of_mem _ hx)) h
   have h5:=h0 k List.mem_cons_self
   have h6:sub1 n k=n-k∧0≤n:=by
    unfold sub1 at h2 ⊢
    split
    ·rename_i hh;rw [if_pos hh] at h2;omega
    ·rename_i hh;exact⟨rfl,by omega⟩
   have h7:szL (sub1 n k) r≤n:=by omega
   refine⟨h6.2,h7,fun x hx=>?_⟩
   rcases List.mem_cons.1 hx with rfl | hx
   ·omega
   ·have:=h4 x hx;omega
theorem szL_one {n k:Int} (h:0≤n):szL n [k]=if n-k<0 then -1 else n-k:=by
 show sub1 n k=_
 unfold sub1
 split<;>split<;>omega
theorem szL_cons {n k:Int} {r:List Int} : szL n (k::r)=szL (szL n [k]) r:=rfl
def szsW (ws:List (List UInt8)):List Int:=(ws.length:Int)::ws.map fun x=>(x.length:Int)
def szW (n:Int) (ws:List (List UInt8)):Int:=szL n (szsW ws)
def szN (n:Int) (l:List Int):Int:=szL n [(l.length:Int)]
def szB (n:Int) (b:Bd):Int:=szL n [(b.prem.length:Int),(b.cells.length:Int)]
def szP (n:Int) (q:Pl):Int:=szL n [(q.word.length:Int)]
def szS (n:Int) (s:List UInt8):Int:=szL n [(s.length:Int)]
def szT (n:Int) (t:TS):Int:=szN (szN (szS n t.letters) t.values) t.counts
def restW (n:Int) (ws:List (List UInt8)) (k:Int):Int:=szL n ((ws.drop k.toNat).map fun x=>(x.length:Int))
structure NL (n:Int):Prop where
 lo:0≤n
 hi:n≤1048576
def sp_l_szInt64S (p:Pr):FSpec:=fsp (ac aN (a1 aI)) (fun (l,n)=>NL n∧p.leP (p.len l) 9223372036854775807) (fun (l,n)=>.i .i64 (szN n l))
theorem ok_l_szInt64S:FOk Tryz.prog 176 (sp_l_szInt64S std):=by
 refine FOk.go (c:=cx std [] [] 0) (cx_ok .nil .nil) mixed Tryz.func176 rfl rfl rfl (by kernel_rfl) ?_
 rintro ⟨l,n⟩ hp
 dsimp only at hp
 refine⟨rfl,?_⟩
 generalize hP:std=p,hB0:szN=B0
 cbv
 repeat' first
  | (refine fun (_:Unit)=>?_;cbv)
  | (refine aI2 (fun h=>?_) (fun h=>?_)<;>cbv)
  | (refine aI2 ?_ ?_)
  | (refine Or.inl (fun (_:Unit)=>?_);cbv)
 all_goals subst hP hB0
 all_goals try exact fin
 all_goals obtain⟨⟨n0,n1⟩,h3⟩:=hp
 all_goals have h3:(l.length:Int)≤9223372036854775807:=h3
 ·exact in64 (by show _≤n-(l.length:Int)∧n-(l.length:Int)≤_;omega)
 ·have h4:n-(l.length:Int)<0:=lt_of h
  rw [szN,szL_one n0,if_pos h4]
 ·have h4:0≤n-(l.length:Int):=ge_of h
  rw [szN,szL_one n0,if_neg (by omega)];rfl
def sp_l_szBoard (p:Pr):FSpec:=fsp (ac (aA aBd) (a1 aI)) (fun (b,n)=>NL n∧p.leP (p.lenS b.prem) 9223372036854775807∧p.leP (p.lenS b.cells) 9223372036854775807) (fun (b,n)=>.i .i64 (szB n b))
theorem ok_l_szBoard:FOk Tryz.prog 101 (sp_l_szBoard std):=by
 refine FOk.go (c:=cx std [] [] 0) (cx_ok .nil .nil) mixed Tryz.func101 rfl rfl rfl (by kernel_rfl) ?_
 rintro ⟨b,n⟩ hp
 dsimp only at hp
 refine⟨rfl,?_⟩
 generalize hP:std=p,hB0:szB=B0
 cbv
 repeat' first
  | (refine fun (_:Unit)=>?_;cbv)
  | (refine aI2 (fun h=>?_) (fun h=>?_)<;>cbv)
  | (refine aI2 ?_ ?_)
  | (refine Or.inl (fun (_:Unit)=>?_);cbv)
 all_goals subst hP hB0
 all_goals try exact fin
 all_goals obtain⟨⟨n0,n1⟩,h3,h3'⟩:=hp
 all_goals have h3:(b.prem.length:Int)≤9223372036854775807:=h3
 all_goals have h3':(b.cells.length:Int)≤9223372036854775807:=h3'
 ·exact in64 (by show _≤n-(b.prem.length:Int)∧n-(b.prem.length:Int)≤_;omega)
 ·have h4:n-(b.prem.length:Int)<0:=lt_of h
  rw [szB,szL_cons,szL_one n0,if_pos h4,szL_neg]
 all_goals have h4:0≤n-(b.prem.length:Int):=ge_of ‹_›
 all_goals (try rw [szB,szL_cons,szL_one n0,if_neg (by omega),szL_one h4])
 ·exact in64 (by show _≤n-(b.prem.length:Int)-(b.cells.length:Int)∧n-(b.prem.length:Int)-(b.cells.length:Int)≤_;omega)
 ·have h5:n-(b.prem.length:Int)-(b.cells.length:Int)<0:=lt_of h
  rw [if_pos h5]
 ·have h5:0≤n-(b.prem.length:Int)-(b.cells.length:Int):=ge_of h
  rw [if_neg (by omega)];rfl
def sp_l_szPlay (p:Pr):FSpec:=fsp (ac (aA aPl) (a1 aI)) (fun (q,n)=>NL n∧p.leP (p.lenS q.word) 9223372036854775807) (fun (q,n)=>.i .i64 (szP n q))
theorem ok_l_szPlay:FOk Tryz.prog 224 (sp_l_szPlay std):=by
 refine FOk.go (c:=cx std [] [] 0) (cx_ok .nil .nil) mixed Tryz.func224 rfl rfl rfl (by kernel_rfl) ?_
 rintro ⟨q,n⟩ hp
 dsimp only at hp
 refine⟨rfl,?_⟩
 generalize hP:std=p,hB0:szP=B0
 cbv
 repeat' first
  | (refine fun (_:Unit)=>?_;cbv)
  | (refine aI2 (fun h=>?_) (fun h=>?_)<;>cbv)
  | (refine aI2 ?_ ?_)
  | (refine Or.inl (fun (_:Unit)=>?_);cbv)
 all_goals subst hP hB0
 all_goals try exact fin
 all_goals obtain⟨⟨n0,n1⟩,h3⟩:=hp
 all_goals have h3:(q.word.length:Int)≤9223372036854775807:=h3
 ·exact in64 (by show _≤n-(q.word.length:Int)∧n-(q.word.length:Int)≤_;omega)
 ·have h4:n-(q.word.length:Int)<0:=lt_of h
  rw [szP,szL_one n0,if_pos h4]
 ·have h4:0≤n-(q.word.length:Int):=ge_of h
  rw [szP,szL_one n0,if_neg (by omega)];rfl
def sp_l_szStringS (p:Pr):FSpec:=fsp (ac aW (a1 aI)) (fun (ws,n)=>NL n∧p.leP (p.len ws) 9223372036854775807∧∀x∈ws,(x.length:Int)≤9223372036854775807) (fun (ws,n)=>.i .i64 (szW n ws))
theorem ok_l_szStringS:FOk Tryz.prog 177 (sp_l_szStringS std):=by
 refine FOk.go (c:=cx std [] [] 0) (cx_ok .nil .nil) mixed Tryz.func177 rfl rfl rfl (by kernel_rfl) ?_
 rintro ⟨ws,n⟩ hp
 dsimp only at hp
 refine⟨rfl,?_⟩
 obtain⟨H,hH⟩ : ∃H:Hd (Int×Int),H=⟨fun (m,k)=>0≤k∧k≤ws.length∧NL m∧szW n ws=restW m ws k,fun (m,k)=>(ws.length-k).toNat,(· < ·)⟩:=⟨_,rfl⟩
 have hl : ∀m n,H.lt m n→m<n:=by subst hH;exact fun _ _ h=>h
 generalize hP:std=p,hB0:szW=B0,hB1:restW=B1
 cbv
 repeat' first
  | (refine fun (_:Unit)=>?_;cbv)
  | (refine Or.inr ⟨12,[],[.s 1 (.i .i64),.s 5 (.i .i64)],[],[],H,rfl,hl,?_,fun ((m,k):Int×Int) hk=>?_⟩<;>cbv)
  | (refine aI2 (fun h=>?_) (fun h=>?_)<;>cbv)
  | (refine aI2 ?_ ?_)
 all_goals subst hP hB0 hB1 hH
 all_goals clear hl
 all_goals try dsimp only at hk
 all_goals try dsimp only
 all_goals try exact fin
 all_goals obtain⟨⟨n0,n1⟩,h3,h3'⟩:=hp
 all_goals have h3:(ws.length:Int)≤9223372036854775807:=h3
 ·exact in64 (by show _≤n-(ws.length:Int)∧n-(ws.length:Int)≤_;omega)
 ·have h4:n-(ws.length:Int)<0:=lt_of h
  rw [szW,szsW,szL_cons,szL_one n0,if_pos h4,szL_neg]
 ·have h4:0≤n-(ws.length:Int):=ge_of h
  refine⟨Int.le_refl 0,Int.natCast_nonneg _,⟨h4,by show n-(ws.length:Int)≤_;omega⟩,?_⟩
  rw [szW,szsW,szL_cons,szL_one n0,if_neg (by omega)];rfl
 all_goals obtain⟨q0,q1,⟨m0,m1⟩,e⟩:=hk
 all_goals try (have hlt:k<(ws.length:Int):=lt_of ‹_›)
 all_goals try (have hb:=h3' _ (show ws.getD k.toNat []∈ws by rw [List.getD_eq_getElem?_getD,List.getElem?_eq_getElem (by omega)];exact List.getElem_mem (by omega));have hb:((ws.getD k.toNat []).length : Int)≤9223372036854775807:=hb)
 ·exact in64 (by show _≤m-((ws.getD k.toNat []).length : Int)∧m-((ws.getD k.toNat []).length : Int)≤_;omega)
 ·have h4:m-((ws.getD k.toNat []).length : Int)<0:=lt_of h
  rw [e,restW,dc q0 hlt [],List.map_cons,szL_cons,szL_one m0,if_pos h4,szL_neg]
 ·have h4:0≤m-((ws.getD k.toNat []).length : Int):=ge_of h
  refine⟨by show 0≤k+1;omega,by show k+1≤(ws.length:Int);omega,⟨h4,by show m-((ws.getD k.toNat []).length : Int)≤_;omega⟩,?_⟩
  rw [e,restW,dc q0 hlt [],List.map_cons,szL_cons,szL_one m0,if_neg (by omega)];rfl
 ·rw [e,restW,dn (ge_of ‹_›)];rfl
structure TsZ (t:TS):Prop where
 l:(t.letters.length:Int)≤9223372036854775807
 v:(t.values.length:Int)≤9223372036854775807
 c:(t.counts.length:Int)≤9223372036854775807
structure LxZ (ws:List (List UInt8)):Prop where
 n:(ws.length:Int)≤9223372036854775807
 w : ∀x∈ws,(x.length:Int)≤9223372036854775807
structure BdZ (b:Bd):Prop where
 p:(b.prem.length:Int)≤9223372036854775807
 c:(b.cells.length:Int)≤9223372036854775807
structure SzOk (f:Int→Int):Prop where
 ge : ∀n, -1≤n→ -1≤f n
 nl : ∀n,NL n→0≤f n→NL (f n)
 m1:f (-1)= -1
theorem SzOk.of {ks:List Int} (hk : ∀k∈ks,0≤k):SzOk (fun n=>szL n ks):=
 ⟨fun _ h=>szL_ge h ks,fun n h h0=>⟨h0,by have:=(szL_le hk h0).2.1;have:=h.hi;omega⟩,szL_neg ks⟩
theorem SzOk.comp {f g:Int→Int} (hf:SzOk f) (hg:SzOk g) (hn : ∀n,0≤f n→0≤n):SzOk (fun n=>f (g n)):=
 ⟨fun n h=>hf.ge _ (hg.ge n h),fun n h h0=>hf.nl _ (hg.nl n h (hn _ h0)) h0,by show f (g (-1))= -1;rw [hg.m1,hf.m1]⟩
theorem szL_pos {ks:List Int} (hk : ∀k∈ks,0≤k) {n:Int} (h:0≤szL n ks):0≤n:=(szL_le hk h).1
theorem nat1 (n:Nat) : ∀k∈[(n:Int)],0≤k:=by simp
theorem nat2 (n m:Nat) : ∀k∈[(n:Int),(m:Int)],0≤k:=by simp
theorem natW (ws:List (List UInt8)) : ∀k∈szsW ws,0≤k:=by
 intro k hk
 unfold szsW at hk
 rcases List.mem_cons.1 hk with rfl | hk
 ·exact Int.natCast_nonneg _
 ·obtain⟨x, -,rfl⟩:=List.mem_map.1 hk
  exact Int.natCast_nonneg _
theorem zkS (s:List UInt8):SzOk (fun n=>szS n s):=.of (nat1 _)
theorem zkN (s:List Int):SzOk (fun n=>szN n s):=.of (nat1 _)
theorem zkB (b:Bd):SzOk (fun n=>szB n b):=.of (nat2 _ _)
theorem zkW (ws:List (List UInt8)):SzOk (fun n=>szW n ws):=.of (natW ws)
theorem zkT (t:TS):SzOk (fun n=>szT n t):=(zkN t.counts).comp ((zkN t.values).comp (zkS t.letters) fun _=>szL_pos (nat1 _)) fun _=>szL_pos (nat1 _)
theorem m_eq {x:Int} (h1 : -1≤x) (h:std.ltI x 0=true):x= -1:=by have:=lt_of h;omega
theorem szS_no {n:Int} {s:List UInt8} (h0:0≤n) (h:std.ltI (std.sub n (std.lenS s)) 0=true):szS n s= -1:=by
 have : n-(s.length:Int)<0:=lt_of h
 rw [szS,szL_one h0,if_pos this]
theorem szS_yes {n:Int} {s:List UInt8} (h0:0≤n) (h:std.ltI (std.sub n (std.lenS s)) 0=false):std.sub n (std.lenS s)=szS n s:=by
 have : 0≤n-(s.length:Int):=ge_of h
 rw [szS,szL_one h0,if_neg (by omega)];rfl
theorem sub_in {n:Int} {s:List UInt8} (h:NL n) (h2:(s.length:Int)≤9223372036854775807):std.inK .i64 (std.sub n (std.lenS s)):=by
 have h3:=h.lo;have h4:=h.hi
 exact in64 (by show _≤n-(s.length:Int)∧n-(s.length:Int)≤_;omega)
def sp_l_szTileSet (p:Pr):FSpec:=fsp (ac (aA aTs) (a1 aI)) (fun (t,n)=>NL n∧TsZ t) (fun (t,n)=>.i .i64 (szT n t))
theorem ok_l_szTileSet:FOk Tryz.prog 99 (sp_l_szTileSet std):=by
 refine FOk.go (c:=cx std [(176,sp_l_szInt64S std)] [] 0) (cx_ok (.cons ok_l_szInt64S .nil) .nil) mixed Tryz.func99 rfl rfl rfl (by kernel_rfl) ?_
 rintro ⟨t,n⟩ hp
 dsimp only at hp
 refine⟨rfl,?_⟩
 unfold sp_l_szInt64S
 generalize hP:std=p,hB0:szT=B0,hB1:szN=B1
 cbv
 repeat' first
  | (refine fun (_:Unit)=>?_;cbv)
  | (refine aI2 (fun h=>?_) (fun h=>?_)<;>cbv)
  | (refine aI2 ?_ ?_)
  | (refine Or.inl (fun (_:Unit)=>?_);cbv)
 all_goals subst hP hB0 hB1
 all_goals try exact fin
 all_goals obtain⟨n0,z⟩:=hp
 ·exact sub_in n0 z.l
 ·rw [szT,szS_no n0.lo h,(zkN _).m1,(zkN _).m1]
 all_goals have e1:=szS_yes n0.lo (show std.ltI (std.sub n (std.lenS t.letters)) 0=false by assumption)
 all_goals have n1:NL (std.sub n (std.lenS t.letters)):=e1 ▸ (zkS _).nl _ n0 (e1 ▸ ge_of ‹_›)
 ·exact n1
 ·exact z.v
 ·rw [szT,←e1,m_eq ((zkN _).ge _ (by have:=n1.lo;omega)) h,(zkN _).m1]
 all_goals have n2:=(zkN t.values).nl _ n1 (ge_of ‹_›)
 ·exact n2
 ·exact z.c
 ·rw [szT,←e1,m_eq ((zkN _).ge _ (by have:=n2.lo;omega)) h]
 ·rw [szT,←e1]
def sp_l_szLexicon (p:Pr):FSpec:=fsp (ac (aA aLex) (a1 aI)) (fun (ws,n)=>NL n∧LxZ ws) (fun (ws,n)=>.i .i64 (szW n ws))
theorem ok_l_szLexicon:FOk Tryz.prog 100 (sp_l_szLexicon std):=by
 refine FOk.go (c:=cx std [(177,sp_l_szStringS std)] [] 0) (cx_ok (.cons ok_l_szStringS .nil) .nil) mixed Tryz.func100 rfl rfl rfl (by kernel_rfl) ?_
 rintro ⟨ws,n⟩ hp
 dsimp only at hp
 refine⟨rfl,?_⟩
 unfold sp_l_szStringS
 generalize hP:std=p,hB0:szW=B0
 cbv
 repeat' first
  | (refine fun (_:Unit)=>?_;cbv)
  | (refine aI2 (fun h=>?_) (fun h=>?_)<;>cbv)
  | (refine aI2 ?_ ?_)
  | (refine Or.inl (fun (_:Unit)=>?_);cbv)
 all_goals subst hP hB0
 all_goals try exact fin
 ·exact hp.2.n
 ·exact (m_eq ((zkW _).ge _ (by have:=hp.1.lo;omega)) h).symm
end Ax
namespace Ax
set_option maxRecDepth 100000
def sp_s_l00Own (p:Pr):FSpec:=fsp (a1 aN) (fun L=>p.ltM (p.len L)) (fun L=>.osl 0) (fun L=>[(0,.own [.i .i64] L 2)])
theorem ok_s_l00Own:FOk Tryz.prog 172 (sp_s_l00Own std):=by
 refine FOk.go (c:=cx std [] [] 0) (cx_ok .nil .nil) mixed Tryz.func172 rfl rfl rfl (by kernel_rfl) ?_
 rintro L hp
 refine⟨rfl,?_⟩
 generalize hP:std=p
 cbv
 repeat' first
  | (refine fun (_:Unit)=>?_;cbv)
  | (refine aI2 (fun h=>?_) (fun h=>?_)<;>cbv)
  | (refine aI2 ?_ ?_)
  | (refine Or.inl (fun (_:Unit)=>?_);cbv)
 all_goals subst hP
 all_goals try exact fin
def beginG (p:Pr) (g:Gm) (n:Int):Gm:={ g with player:=p.sub 1 g.player,clocks:=p.set g.clocks g.player (p.sub (p.get 0 g.clocks g.player) n) }
def sp_i_xGame_begin (p:Pr):MSpec:=msp (mG (a1 aI)) (fun (g,n)=>p.inL g.player (p.len g.clocks)∧p.inK .i64 (p.sub (p.get 0 g.clocks g.player) n)∧p.inK .i64 (p.sub 1 g.player)) (fun (g,n)=>.tup [.i .i64 g.player,.i .i64 (p.sub 1 g.player)]) (fun (g,n)=>gmH (beginG p g n))
theorem ok_i_xGame_begin:MOk Tryz.prog 166 (sp_i_xGame_begin std):=by
 refine MOk.go (c:=cx std [] [] 7) (cx_ok .nil .nil) mixed Tryz.func166 rfl rfl (by kernel_rfl) ?_
 rintro ⟨g,n⟩ hp
 dsimp only at hp
 refine⟨rfl,?_⟩
 generalize hP:std=p
 cbv
 repeat' first
  | (refine fun (_:Unit)=>?_;cbv)
  | (refine aI2 (fun h=>?_) (fun h=>?_)<;>cbv)
  | (refine aI2 ?_ ?_)
  | (refine Or.inl (fun (_:Unit)=>?_);cbv)
 all_goals subst hP
 all_goals try exact fin
def sp_s_l18Penalty (p:Pr):FSpec:=fsp (a1 aI) (fun n=>p.leP (-36000) n) (fun n=>.i .i64 (pen n))
theorem ok_s_l18Penalty:FOk Tryz.prog 87 (sp_s_l18Penalty std):=by
 refine FOk.go (c:=cx std [] [] 0) (cx_ok .nil .nil) mixed Tryz.func87 rfl rfl rfl (by kernel_rfl) ?_
 rintro n hp
 refine⟨rfl,?_⟩
 generalize hP:std=p,hB0:pen=B0
 cbv
 repeat' first
  | (refine fun (_:Unit)=>?_;cbv)
  | (refine aI2 (fun h=>?_) (fun h=>?_)<;>cbv)
  | (refine aI2 ?_ ?_)
  | (refine Or.inl (fun (_:Unit)=>?_);cbv)
 all_goals subst hP hB0
 all_goals try exact fin
 ·simp [std] at h;simp [pen,h]
 ·simp [std] at h
  have h1 : ¬0≤n:=by omega
  have h2:(59-n).tdiv 60=(59-n)/60:=Int.tdiv_eq_ediv_of_nonneg (by omega)
  simp [std,pen,h1,h2]
end Ax
namespace Ax
set_option maxRecDepth 100000
def sp_s_l00In (p:Pr):FSpec:=fsp (ac aI (ac aI (a1 aI))) (fun (n,lo,hi)=>True) (fun (n,lo,hi)=>.b (inR n lo hi))
theorem ok_s_l00In:FOk Tryz.prog 78 (sp_s_l00In std):=by
 refine FOk.go (c:=cx std [] [] 0) (cx_ok .nil .nil) mixed Tryz.func78 rfl rfl rfl (by kernel_rfl) ?_
 rintro ⟨n,lo,hi⟩ hp
 dsimp only at hp
 refine⟨rfl,?_⟩
 generalize hP:std=p,hB0:inR=B0
 cbv
 repeat' first
  | (refine fun (_:Unit)=>?_;cbv)
  | (refine aI2 (fun h=>?_) (fun h=>?_)<;>cbv)
  | (refine aI2 ?_ ?_)
  | (refine Or.inl (fun (_:Unit)=>?_);cbv)
 all_goals subst hP hB0
 all_goals try exact fin
 all_goals (simp [std,inR] at * <;>first | lia | (simp_all;done))
def sp_s_l01Small (p:Pr):FSpec:=fsp (a1 aC) (fun n=>True) (fun n=>.b (inR n 97 122))
theorem ok_s_l01Small:FOk Tryz.prog 197 (sp_s_l01Small std):=by
 refine FOk.go (c:=cx std [] [] 0) (cx_ok .nil .nil) mixed Tryz.func197 rfl rfl rfl (by kernel_rfl) ?_
 rintro n hp
 refine⟨rfl,?_⟩
 generalize hP:std=p,hB0:inR=B0
 cbv
 repeat' first
  | (refine fun (_:Unit)=>?_;cbv)
  | (refine aI2 (fun h=>?_) (fun h=>?_)<;>cbv)
  | (refine aI2 ?_ ?_)
  | (refine Or.inl (fun (_:Unit)=>?_);cbv)
 all_goals subst hP hB0
 all_goals try exact fin
 all_goals (simp [std,inR] at * <;>first | lia | (simp_all;done))
def sp_s_IsWord (p:Pr):FSpec:=fsp (a1 aS) (fun s=>p.ltM (p.lenS s)) (fun s=>.b (isWordB s))
theorem ok_s_IsWord:FOk Tryz.prog 243 (sp_s_IsWord std):=by
 refine FOk.go (c:=cx std [(78,sp_s_l00In std),(197,sp_s_l01Small std)] [] 0) (cx_ok (.cons ok_s_l00In (.cons ok_s_l01Small .nil)) .nil) mixed Tryz.func243 rfl rfl rfl (by kernel_rfl) ?_
 rintro s hp
 refine⟨rfl,?_⟩
 unfold sp_s_l00In sp_s_l01Small
 obtain⟨H,hH⟩ : ∃H:Hd (Int),H=⟨fun k=>0≤k∧k≤s.length∧isWordB s=((s.drop k.toNat).all smallB&&inR s.length 1 12),fun k=>(s.length-k).toNat,(· < ·)⟩:=⟨_,rfl⟩
 have hl : ∀m n,H.lt m n→m<n:=by subst hH;exact fun _ _ h=>h
 generalize hP:std=p,hB0:isWordB=B0,hB1:inR=B1
 cbv
 repeat' first
  | (refine fun (_:Unit)=>?_;cbv)
  | (refine Or.inr ⟨4,[],[.s 3 (.i .i64)],[],[],H,rfl,hl,?_,fun (k:Int) hk=>?_⟩<;>cbv)
  | (refine aI2 (fun h=>?_) (fun h=>?_)<;>cbv)
  | (refine aI2 ?_ ?_)
 all_goals subst hP hB0 hB1 hH
 all_goals clear hl
 all_goals try dsimp only at hk
 all_goals try dsimp only
 all_goals try exact fin
 all_goals try first
  | exact⟨Int.le_refl 0,Int.natCast_nonneg _,rfl⟩
  | (simp [isWordB,smallB,inR];done)
  | (obtain⟨q0,q1,e⟩:=hk;refine⟨by simp [std] at *;lia,by simp [std] at *;lia,?_⟩;rw [e,dc q0 (lt_of ‹_›) 0];clear e;simp_all [std,isWordB,smallB,inR];done)
  | (obtain⟨q0,q1,e⟩:=hk;refine⟨by simp [std] at *;lia,by simp [std] at *;lia,?_⟩;rw [e,dc q0 (lt_of ‹_›) 0];clear e;simp_all [std,isWordB,smallB,inR]<;>grind;done)
  | (obtain⟨q0,q1,e⟩:=hk;rw [e,dc q0 (lt_of ‹_›) 0];clear e;simp_all [std,isWordB,smallB,inR];done)
  | (obtain⟨q0,q1,e⟩:=hk;rw [e,dc q0 (lt_of ‹_›) 0];clear e;simp_all [std,isWordB,smallB,inR]<;>grind;done)
  | (obtain⟨q0,q1,e⟩:=hk;rw [e,dn (ge_of ‹_›)];clear e;simp_all [std,isWordB,smallB,inR];done)
  | (obtain⟨q0,q1,e⟩:=hk;rw [e,dn (ge_of ‹_›)];clear e;simp_all [std,isWordB,smallB,inR]<;>grind;done)
def u8 (n:Int):UInt8:=UInt8.ofNat n.toNat
def findI:List UInt8→UInt8→Int
 | [],_=> -1
 | x::r,c=>if x=c then 0 else if findI r c<0 then -1 else findI r c+1
theorem ltM_of {n:Nat} (h:n≤274877906944):std.ltM n:=by show (n:Int)≤274877906944;omega
theorem findI_ge : ∀(l:List UInt8) (c:UInt8), -1≤findI l c
 | [],c=>by simp [findI]
 | x::r,c=>by have:=findI_ge r c;unfold findI;split<;>(try split)<;>omega
theorem findI_K : ∀(l:List UInt8) (c:UInt8),findI l c=if findK l c<l.length then (findK l c:Int) else -1
 | [],c=>rfl
 | x::r,c=>by
   unfold findI findK
   rw [findI_K r c]
   by_cases h:x=c
   ·simp [h]
   ·simp only [h,if_false,beq_iff_eq,List.length_cons]
    by_cases h2:findK r c<r.length
    ·rw [if_pos h2,if_neg (by omega),if_pos (by omega)];omega
    ·rw [if_neg h2,if_pos (by omega),if_neg (by omega)]
theorem valT_I (t:TS) (c:UInt8):valT t c=if findI t.letters c<0 then 0 else t.values.getD (findI t.letters c).toNat 0:=by
 unfold valT
 rw [findI_K]
 by_cases h:findK t.letters c<t.letters.length
 ·rw [if_pos h,if_pos h,if_neg (by omega)];rfl
 ·rw [if_neg h,if_neg h,if_pos (by omega)]
theorem byte_eq {l:List UInt8} {k n:Int} (hn:0≤n∧n≤255):std.eqI (std.byte l k) n=true↔l.getD k.toNat 0=u8 n:=by
 show ((((l.getD k.toNat 0).toNat : Nat):Int)==n)=true↔_
 rw [beq_iff_eq]
 unfold u8
 generalize l.getD k.toNat 0=c
 constructor
 ·rintro rfl
  simp
 ·intro h
  have:=congrArg UInt8.toNat h
  simp only [UInt8.toNat_ofNat'] at this
  omega
theorem byte_ne {l:List UInt8} {k n:Int} (hn:0≤n∧n≤255) (h:std.eqI (std.byte l k) n=false):l.getD k.toNat 0≠u8 n:=fun hh=>by rw [(byte_eq hn).2 hh] at h;cases h
theorem u8_byte (l:List UInt8) (k:Int):u8 (std.byte l k)=l.getD k.toNat 0:=by simp [u8,std]
def sp_s_l02Find (p:Pr):FSpec:=fsp (ac (aP aTs) (a1 aC)) (fun (t,n)=>p.ltM (p.lenS t.letters)∧p.inK .u8 n) (fun (t,n)=>.i .i64 (findI t.letters (u8 n)))
theorem ok_s_l02Find:FOk Tryz.prog 260 (sp_s_l02Find std):=by
 refine FOk.go (c:=cx std [] [] 0) (cx_ok .nil .nil) mixed Tryz.func260 rfl rfl rfl (by kernel_rfl) ?_
 rintro ⟨t,n⟩ hp
 dsimp only at hp
 refine⟨rfl,?_⟩
 obtain⟨H,hH⟩ : ∃H:Hd (Int),H=⟨fun k=>0≤k∧k≤t.letters.length∧findI t.letters (u8 n)=(if findI (t.letters.drop k.toNat) (u8 n)<0 then -1 else k+findI (t.letters.drop k.toNat) (u8 n)),fun k=>(t.letters.length-k).toNat,(· < ·)⟩:=⟨_,rfl⟩
 have hl : ∀m n,H.lt m n→m<n:=by subst hH;exact fun _ _ h=>h
 generalize hP:std=p,hB0:findI=B0
 cbv
 repeat' first
  | (refine fun (_:Unit)=>?_;cbv)
  | (refine Or.inr ⟨6,[],[.s 5 (.i .i64)],[],[],H,rfl,hl,?_,fun (k:Int) hk=>?_⟩<;>cbv)
  | (refine aI2 (fun h=>?_) (fun h=>?_)<;>cbv)
  | (refine aI2 ?_ ?_)
 all_goals subst hP hB0 hH
 all_goals clear hl
 all_goals try dsimp only at hk
 all_goals try dsimp only
 all_goals try exact fin
 ·exact⟨Int.le_refl 0,Int.natCast_nonneg _,by have:=findI_ge t.letters (u8 n);simp only [Int.toNat_zero,List.drop_zero];split<;>omega⟩
 ·obtain⟨q0,q1,e⟩:=hk
  rw [e,dc q0 (lt_of ‹_›) 0]
  simp only [findI,(byte_eq hp.2).1 h,if_true]
  simp
 ·obtain⟨q0,q1,e⟩:=hk
  refine⟨by simp [std] at *;lia,by simp [std] at *;lia,?_⟩
  rw [e,dc q0 (lt_of ‹_›) 0]
  have:=findI_ge (t.letters.drop (k+1).toNat) (u8 n)
  simp only [findI,byte_ne hp.2 h,if_false,sd_add]
  split<;>split<;>omega
 ·obtain⟨q0,q1,e⟩:=hk
  rw [e,dn (ge_of ‹_›)]
  simp [findI]
def sp_s_l02Value (p:Pr):FSpec:=fsp (ac (aP aTs) (a1 aC)) (fun (t,n)=>p.inK .u8 n∧TsOk t) (fun (t,n)=>.i .i64 (valT t (u8 n)))
theorem ok_s_l02Value:FOk Tryz.prog 222 (sp_s_l02Value std):=by
 refine FOk.go (c:=cx std [(260,sp_s_l02Find std)] [] 0) (cx_ok (.cons ok_s_l02Find .nil) .nil) mixed Tryz.func222 rfl rfl rfl (by kernel_rfl) ?_
 rintro ⟨t,n⟩ hp
 dsimp only at hp
 refine⟨rfl,?_⟩
 unfold sp_s_l02Find
 generalize hP:std=p,hB0:findI=B0,hB1:valT=B1,hB2:u8=B2
 cbv
 repeat' first
  | (refine fun (_:Unit)=>?_;cbv)
  | (refine aI2 (fun h=>?_) (fun h=>?_)<;>cbv)
  | (refine aI2 ?_ ?_)
  | (refine Or.inl (fun (_:Unit)=>?_);cbv)
 all_goals subst hP hB0 hB1 hB2
 all_goals try exact fin
 ·exact ltM_of (Nat.le_trans hp.2.len (by decide))
 ·have h1:findI t.letters (u8 n)<0:=lt_of ‹_›
  rw [valT_I,if_pos h1]
 ·have h1:=ge_of ‹_›
  have h2:=findI_K t.letters (u8 n)
  have h3:=hp.2.vals
  refine⟨h1,?_⟩
  show findI t.letters (u8 n)<((t.values.length:Nat):Int)
  rw [h2] at h1 ⊢
  split at h1<;>omega
 ·have h1:0≤findI t.letters (u8 n):=ge_of ‹_›
  rw [valT_I,if_neg (by omega)];rfl
def sp_s_l02Sum (p:Pr):FSpec:=fsp (ac (aP aTs) (a1 aS)) (fun (t,s)=>TsOk t∧p.ltM (p.lenS s)) (fun (t,s)=>.i .i64 (sumT t s))
theorem ok_s_l02Sum:FOk Tryz.prog 164 (sp_s_l02Sum std):=by
 refine FOk.go (c:=cx std [(222,sp_s_l02Value std)] [] 0) (cx_ok (.cons ok_s_l02Value .nil) .nil) mixed Tryz.func164 rfl rfl rfl (by kernel_rfl) ?_
 rintro ⟨t,s⟩ hp
 dsimp only at hp
 refine⟨rfl,?_⟩
 unfold sp_s_l02Value
 obtain⟨H,hH⟩ : ∃H:Hd (Int×Int),H=⟨fun (m,k)=>0≤k∧k≤s.length∧sumT t s=m+sumT t (s.drop k.toNat)∧0≤m∧m≤20*k,fun (m,k)=>(s.length-k).toNat,(· < ·)⟩:=⟨_,rfl⟩
 have hl : ∀m n,H.lt m n→m<n:=by subst hH;exact fun _ _ h=>h
 generalize hP:std=p,hB0:valT=B0,hB1:sumT=B1,hB2:u8=B2
 cbv
 repeat' first
  | (refine fun (_:Unit)=>?_;cbv)
  | (refine Or.inr ⟨7,[],[.s 5 (.i .i64),.s 6 (.i .i64)],[],[],H,rfl,hl,?_,fun ((m,k):Int×Int) hk=>?_⟩<;>cbv)
  | (refine aI2 (fun h=>?_) (fun h=>?_)<;>cbv)
  | (refine aI2 ?_ ?_)
 all_goals subst hP hB0 hB1 hB2 hH
 all_goals clear hl
 all_goals try dsimp only at hk
 all_goals try dsimp only
 all_goals try exact fin
 ·obtain⟨q0,q1,e,q2,q3⟩:=hk
  have h1:=lt_of h
  have h2:=hp.1.lo (u8 (std.byte s k))
  have h3:=hp.1.hi (u8 (std.byte s k))
  exact in64 (by simp [std] at *;lia)
 ·obtain⟨q0,q1,e,q2,q3⟩:=hk
  have h1:=lt_of h
  have h2:=hp.1.lo (u8 (std.byte s k))
  have h3:=hp.1.hi (u8 (std.byte s k))
  refine⟨by simp [std] at *;lia,by simp [std] at *;lia,?_,by simp [std] at *;lia,by simp [std] at *;lia⟩
  rw [e,dc q0 h1 0,u8_byte]
  simp [sumT,Int.add_assoc]
 ·obtain⟨q0,q1,e,q2,q3⟩:=hk
  rw [e,dn (ge_of h)]
  simp [sumT]
def repC (n:Int) (c:UInt8):List UInt8:=List.replicate n.toNat c
theorem rep_snoc {n m:Int} {c:Int} (h:0<m) (h2:m≤n):List.replicate (n-max m 0).toNat c++[c]=List.replicate (n-max (m-1) 0).toNat c:=by
 rw [show (n-max (m-1) 0).toNat =(n-max m 0).toNat + 1 from by omega,List.replicate_succ']
theorem rep_all {n m c:Int} (h:m≤0):std.toS (List.replicate (n-max m 0).toNat c)=repC n (u8 c):=by
 have h1:n-max m 0=n:=by omega
 rw [h1]
 unfold repC u8
 show toSl (List.replicate n.toNat c)=_
 unfold toSl
 rw [List.map_replicate]
def sp_s_l02Repeat (p:Pr):FSpec:=fsp (ac aC (a1 aI)) (fun (c,n)=>p.leP n 200∧p.inK .u8 c) (fun (c,n)=>.s (repC n (u8 c)))
theorem ok_s_l02Repeat:FOk Tryz.prog 130 (sp_s_l02Repeat std):=by
 refine FOk.go (c:=cx std [] [] 0) (cx_ok .nil .nil) mixed Tryz.func130 rfl rfl rfl (by kernel_rfl) ?_
 rintro ⟨c,n⟩ hp
 dsimp only at hp
 refine⟨rfl,?_⟩
 obtain⟨H,hH⟩ : ∃H:Hd (Int×List Int),H=⟨fun (m,L)=>m≤n∧L=List.replicate (n-max m 0).toNat c,fun (m,L)=>m.toNat,(· < ·)⟩:=⟨_,rfl⟩
 have hl : ∀m n,H.lt m n→m<n:=by subst hH;exact fun _ _ h=>h
 generalize hP:std=p,hB0:repC=B0,hB1:u8=B1
 cbv
 repeat' first
  | (refine fun (_:Unit)=>?_;cbv)
  | (refine Or.inr ⟨7,[],[.s 1 (.i .i64),.o 0 [.i .u8]],[.s 5],[],H,rfl,hl,?_,fun ((m,L):Int×List Int) hk=>?_⟩<;>cbv)
  | (refine aI2 (fun h=>?_) (fun h=>?_)<;>cbv)
  | (refine aI2 ?_ ?_)
 all_goals subst hP hB0 hB1 hH
 all_goals clear hl
 all_goals try dsimp only at hk
 all_goals try dsimp only
 all_goals try exact fin
 ·simp [std,hk.2] at *;lia
 ·exact⟨by simp [std] at *;lia,by rw [hk.2];exact rep_snoc (lt_of h) hk.1⟩
 ·have:=ge_of h
  obtain⟨q0,rfl⟩:=hk
  exact rep_all this
def sp_s_l02Own (p:Pr):FSpec:=fsp (a1 (aP aTs)) (fun t=>p.ltM (p.len t.values)∧p.ltM (p.len t.counts)) (fun t=>.agg (tsK t (.osl 0) (.osl 1))) (fun t=>[(0,.own [.i .i64] t.values 2),(1,.own [.i .i64] t.counts 2)])
theorem ok_s_l02Own:FOk Tryz.prog 147 (sp_s_l02Own std):=by
 refine FOk.go (c:=cx std [(172,sp_s_l00Own std)] [] 0) (cx_ok (.cons ok_s_l00Own .nil) .nil) mixed Tryz.func147 rfl rfl rfl (by kernel_rfl) ?_
 rintro t hp
 refine⟨rfl,?_⟩
 unfold sp_s_l00Own
 generalize hP:std=p
 cbv
 repeat' first
  | (refine fun (_:Unit)=>?_;cbv)
  | (refine aI2 (fun h=>?_) (fun h=>?_)<;>cbv)
  | (refine aI2 ?_ ?_)
  | (refine Or.inl (fun (_:Unit)=>?_);cbv)
 all_goals subst hP
 all_goals try exact fin
def repD (t:TS) (k:Int):List UInt8:=repT (t.letters.drop k.toNat) (t.counts.drop k.toNat)
theorem repD_step {t:TS} {k:Int} (h0:0≤k) (h:k<t.letters.length) (h2:t.counts.length=t.letters.length):repD t k=repC (t.counts.getD k.toNat 0) (t.letters.getD k.toNat 0)++repD t (k+1):=by
 unfold repD
 rw [dc h0 h 0,dc (L:=t.counts) h0 (by omega) 0]
 rfl
structure AllP (t:TS):Prop where
 ok:TsOk t
 bl:t.blanks≤4
 hi : ∀k:Nat,t.counts.getD k 0≤20
theorem repC_len (n:Int) (c:UInt8) (h:n≤20):(repC n c).length ≤20:=by simp [repC];omega
def sp_s_l02All (p:Pr):FSpec:=fsp (a1 (aP aTs)) (fun t=>AllP t) (fun t=>.s (allT t))
theorem ok_s_l02All:FOk Tryz.prog 54 (sp_s_l02All std):=by
 refine FOk.go (c:=cx std [(130,sp_s_l02Repeat std)] [] 0) (cx_ok (.cons ok_s_l02Repeat .nil) .nil) mixed Tryz.func54 rfl rfl rfl (by kernel_rfl) ?_
 rintro t hp
 refine⟨rfl,?_⟩
 unfold sp_s_l02Repeat
 obtain⟨H,hH⟩ : ∃H:Hd (List UInt8×Int),H=⟨fun (s,k)=>0≤k∧k≤t.letters.length∧allT t=s++repD t k∧(s.length:Int)≤20+20*k,fun (s,k)=>(t.letters.length-k).toNat,(· < ·)⟩:=⟨_,rfl⟩
 have hl : ∀m n,H.lt m n→m<n:=by subst hH;exact fun _ _ h=>h
 generalize hP:std=p,hB0:allT=B0,hB1:repC=B1,hB2:u8=B2
 cbv
 repeat' first
  | (refine fun (_:Unit)=>?_;cbv)
  | (refine Or.inr ⟨10,[],[.s 3 .s,.s 4 (.i .i64)],[],[],H,rfl,hl,?_,fun ((s,k):List UInt8×Int) hk=>?_⟩<;>cbv)
  | (refine aI2 (fun h=>?_) (fun h=>?_)<;>cbv)
  | (refine aI2 ?_ ?_)
 all_goals subst hP hB0 hB1 hB2 hH
 all_goals clear hl
 all_goals try dsimp only at hk
 all_goals try dsimp only
 all_goals try exact fin
 ·exact Int.le_trans hp.bl (by decide)
 ·refine⟨Int.le_refl 0,Int.natCast_nonneg _,rfl,?_⟩
  have:=repC_len t.blanks (u8 63) (Int.le_trans hp.bl (by decide))
  show (((repC t.blanks (u8 63)).length : Nat):Int)≤_
  omega
 ·exact⟨hk.1,by have:=hp.ok.cnts;have:=lt_of h;simp [std] at *;lia⟩
 ·exact Int.le_trans (hp.hi k.toNat) (by decide)
 ·have h1:=repC_len _ (u8 (std.byte t.letters k)) (hp.hi k.toNat)
  have h2:=hp.ok.len
  have h3:=lt_of h
  exact in64 (by simp [std] at *;lia)
 ·have h2:=hp.ok.len
  have h3:=lt_of h
  exact in64 (by simp [std] at *;lia)
 ·obtain⟨q0,q1,e,q2⟩:=hk
  have h1:=repC_len _ (u8 (std.byte t.letters k)) (hp.hi k.toNat)
  have h3:=lt_of h
  refine⟨by simp;omega,by simp [std] at *;lia,?_,by simp [std] at *;lia⟩
  rw [e,repD_step q0 h3 hp.ok.cnts,u8_byte]
  simp
 ·obtain⟨q0,q1,e,q2⟩:=hk
  rw [e]
  unfold repD
  rw [dn (ge_of h)]
  exact (List.append_nil s).symm
theorem smallB_i (c:UInt8):smallB c=inR (c.toNat:Int) 97 122:=rfl
theorem capB_i (c:UInt8):capB c=inR (c.toNat:Int) 65 90:=rfl
theorem byte_lit {c:UInt8} {n:Nat} (h:n<256):(c==UInt8.ofNat n)=((c.toNat:Int)==(n:Int)):=by
 rw [Bool.eq_iff_iff,beq_iff_eq,beq_iff_eq,←UInt8.toNat_inj,UInt8.toNat_ofNat',Nat.mod_eq_of_lt h]
 omega
theorem tileB_i (c:UInt8):tileB c=((c.toNat:Int)==63||inR (c.toNat:Int) 97 122):=by
 unfold tileB
 rw [show (63:UInt8)=UInt8.ofNat 63 from rfl,byte_lit (by decide),smallB_i]
 rfl
theorem leB_i (a b:UInt8):leB a b=decide ((a.toNat:Int)≤b.toNat):=by unfold leB;simp
def sp_s_l03Tile (p:Pr):FSpec:=fsp (a1 aC) (fun n=>True) (fun n=>.b (n==63||inR n 97 122))
theorem ok_s_l03Tile:FOk Tryz.prog 146 (sp_s_l03Tile std):=by
 refine FOk.go (c:=cx std [(197,sp_s_l01Small std)] [] 0) (cx_ok (.cons ok_s_l01Small .nil) .nil) mixed Tryz.func146 rfl rfl rfl (by kernel_rfl) ?_
 rintro n hp
 refine⟨rfl,?_⟩
 unfold sp_s_l01Small
 generalize hP:std=p,hB0:inR=B0
 cbv
 repeat' first
  | (refine fun (_:Unit)=>?_;cbv)
  | (refine aI2 (fun h=>?_) (fun h=>?_)<;>cbv)
  | (refine aI2 ?_ ?_)
  | (refine Or.inl (fun (_:Unit)=>?_);cbv)
 all_goals subst hP hB0
 all_goals try exact fin
def sp_s_l03Capital (p:Pr):FSpec:=fsp (a1 aC) (fun n=>True) (fun n=>.b (inR n 65 90))
theorem ok_s_l03Capital:FOk Tryz.prog 198 (sp_s_l03Capital std):=by
 refine FOk.go (c:=cx std [] [] 0) (cx_ok .nil .nil) mixed Tryz.func198 rfl rfl rfl (by kernel_rfl) ?_
 rintro n hp
 refine⟨rfl,?_⟩
 generalize hP:std=p,hB0:inR=B0
 cbv
 repeat' first
  | (refine fun (_:Unit)=>?_;cbv)
  | (refine aI2 (fun h=>?_) (fun h=>?_)<;>cbv)
  | (refine aI2 ?_ ?_)
  | (refine Or.inl (fun (_:Unit)=>?_);cbv)
 all_goals subst hP hB0
 all_goals try exact fin
 all_goals (simp [std,inR] at * <;>first | lia | (simp_all;done))
def pileK (s:List UInt8) (k:Int):Bool:=pileFrom (if k≤0 then none else some (s.getD (k-1).toNat 0)) (s.drop k.toNat)
theorem pileK_step {s:List UInt8} {k:Int} (h0:0≤k) (h:k<s.length):pileK s k=(tileB (s.getD k.toNat 0)&&((decide (k≤0)||leB (s.getD (k-1).toNat 0) (s.getD k.toNat 0))&&pileK s (k+1))):=by
 unfold pileK
 rw [dc h0 h 0,if_neg (show ¬k+1≤0 by omega),show k+1-1=k from by omega]
 by_cases hk:k≤0
 ·simp [hk,pileFrom]
 ·simp [hk,pileFrom,Bool.and_assoc]
theorem pileK_end {s:List UInt8} {k:Int} (h:(s.length:Int)≤k):pileK s k=true:=by unfold pileK;rw [dn h];cases (if k≤0 then none else some (s.getD (k-1).toNat 0))<;>rfl
def sp_s_l03Pile (p:Pr):FSpec:=fsp (a1 aS) (fun s=>p.ltM (p.lenS s)) (fun s=>.b (pileB s))
theorem ok_s_l03Pile:FOk Tryz.prog 95 (sp_s_l03Pile std):=by
 refine FOk.go (c:=cx std [(146,sp_s_l03Tile std)] [] 0) (cx_ok (.cons ok_s_l03Tile .nil) .nil) mixed Tryz.func95 rfl rfl rfl (by kernel_rfl) ?_
 rintro s hp
 refine⟨rfl,?_⟩
 unfold sp_s_l03Tile
 obtain⟨H,hH⟩ : ∃H:Hd (Int),H=⟨fun k=>0≤k∧k≤s.length∧pileB s=(pileK s k&&decide (s.length≤120)),fun k=>(s.length-k).toNat,(· < ·)⟩:=⟨_,rfl⟩
 have hl : ∀m n,H.lt m n→m<n:=by subst hH;exact fun _ _ h=>h
 generalize hP:std=p,hB0:pileB=B0,hB1:inR=B1
 cbv
 repeat' first
  | (refine fun (_:Unit)=>?_;cbv)
  | (refine Or.inr ⟨4,[],[.s 3 (.i .i64)],[],[],H,rfl,hl,?_,fun (k:Int) hk=>?_⟩<;>cbv)
  | (refine aI2 (fun h=>?_) (fun h=>?_)<;>cbv)
  | (refine aI2 ?_ ?_)
 all_goals subst hP hB0 hB1 hH
 all_goals clear hl
 all_goals try dsimp only at hk
 all_goals try dsimp only
 all_goals try exact fin
 all_goals try first
  | exact⟨Int.le_refl 0,Int.natCast_nonneg _,rfl⟩
  | (simp [pileB,tileB_i,leB_i];done)
  | (obtain⟨q0,q1,e⟩:=hk;refine⟨by simp [std] at *;lia,by simp [std] at *;lia,?_⟩;rw [e,pileK_step q0 (lt_of ‹_›)];clear e;simp_all [std,pileB,tileB_i,leB_i];done)
  | (obtain⟨q0,q1,e⟩:=hk;refine⟨by simp [std] at *;lia,by simp [std] at *;lia,?_⟩;rw [e,pileK_step q0 (lt_of ‹_›)];clear e;simp_all [std,pileB,tileB_i,leB_i]<;>grind;done)
  | (obtain⟨q0,q1,e⟩:=hk;rw [e,pileK_step q0 (lt_of ‹_›)];clear e;simp_all [std,pileB,tileB_i,leB_i];done)
  | (obtain⟨q0,q1,e⟩:=hk;rw [e,pileK_step q0 (lt_of ‹_›)];clear e;simp_all [std,pileB,tileB_i,leB_i]<;>grind;done)
  | (obtain⟨q0,q1,e⟩:=hk;rw [e,pileK_end (ge_of ‹_›)];clear e;simp_all [std,pileB,tileB_i,leB_i];done)
  | (obtain⟨q0,q1,e⟩:=hk;rw [e,pileK_end (ge_of ‹_›)];clear e;simp_all [std,pileB,tileB_i,leB_i]<;>grind;done)
end Ax
end Go.Proofs.YtghmphmbpdiflaaGreatDoor
