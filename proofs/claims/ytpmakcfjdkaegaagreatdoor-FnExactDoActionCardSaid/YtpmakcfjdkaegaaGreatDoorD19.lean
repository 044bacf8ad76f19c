/-
  What the start world holds, out of its row's list; What the start world holds, out of its row's list; what games and plays come in; The laws package: what a law hands on: rows, tile sets, setups, games; The laws package: whether two rows, two tile sets, two games are the same; The laws package: marks laid into rows, tile sets, games.
  Conditions: as each part below says.
-/
import Derived.Test.YtpmakcfjdkaegaaGreatDoorD01
import Derived.Test.YtpmakcfjdkaegaaGreatDoorD18
import Derived.Lib.LaidCase
import Derived.PinnedBridge
import Derived.ProofKit
import Derived.LaidMore
import Derived.Shelf.Vars
import Derived.ShapedOpen
import Derived.Test.YtpmakcfjdkaegaaGreatDoorRows
import Derived.Test.YtpmakcfjdkaegaaGreatDoorD10
import Derived.Test.YtpmakcfjdkaegaaGreatDoorD17
import Derived.Lay
import Derived.SizedLaws
import Derived.ChangeSlices
set_option linter.unusedSimpArgs false
set_option linter.unusedVariables false
namespace Go.Proofs.YtpmakcfjdkaegaaGreatDoor
open Go.RowKit Go.Shelf
set_option maxRecDepth 100000
namespace Ax
theorem max_gl {W:World} (h:W.ShapedOpen Tryz.prog) : ∃m:Int,W.cell? ⟨0,0,none⟩=some (.int .i64 m):=
 cell_of_shapedOpen_int (g:=0) (t:=3) (zero:=#[.int .i64 0]) (k:=.i64) h (of_decide_eq_true (by kernel_rfl)) (by kernel_rfl) rfl (by kernel_rfl) (by kernel_rfl) Tryz.underlying3
theorem gl_of {W:World} (hsh:W.ShapedOpen Tryz.prog) {l:List (String×DataW Unit)} (h:laidMet Tryz.prog l W) (h1:("unicode.CaseRanges",Pinned.caseRanges)∈l) (h2:("unicode/utf8.first",Pinned.utf8First)∈l) (h3:("unicode/utf8.acceptRanges",Lib.acceptData)∈l):Gl W:=by
 refine⟨max_gl hsh,?_,?_⟩
 ·exact caseVar_of_reads (ρ:=Tryz.lays159_ren) { Tryz.lays159 with } (by kernel_rfl) ⟨by kernel_rfl,by kernel_rfl,by kernel_rfl,by kernel_rfl,by kernel_rfl,by kernel_rfl⟩ (Pinned.caseRanges_eq ▸ Lib.laidMet.reads h h1)
 ·exact utf8Tabs_of_reads (ρ:=Tryz.lays159_ren) { Tryz.lays159 with } ⟨by kernel_rfl,by kernel_rfl,by kernel_rfl,by kernel_rfl,by kernel_rfl,by kernel_rfl,by kernel_rfl⟩ (Pinned.utf8First_eq ▸ Lib.laidMet.reads h h2) (Lib.laidMet.reads h h3)
end Ax
end Go.Proofs.YtpmakcfjdkaegaaGreatDoor
namespace Go.Proofs.YtpmakcfjdkaegaaGreatDoor
open Go.ChangeShapes Go.WideShapes Go.ChangeAt Go.RowKit Go.Joins
set_option maxRecDepth 100000
theorem change_shaped_and {H:Type} {enc:TypeId×Value→H} {a:Assume} {C:Checked} {os:Os} {f:FuncId} {fn:Func} {s:ChangeSpec} {conds:List PathCond} {apart fresh handsOn again:Bool} {X:World→Array Value→Prop}
 (hX : ∀(w w':World) (args:Array Value),w.heap=w'.heap→X w args→X w' args)
 (own:ownKnob C.prog.godebug=none) (started:os.Started) (noInit:C.prog.inits.idxOf? f=none) (hfn:C.prog.funcs[f]? =some fn)
 (witness : ∃(w:World) (tape:Tape) (i:Input),w.os=os∧(w.forCall tape i).Shaped C.prog∧i.vars=[]∧Input.okWide C.prog (w.forCall tape i) .any w.heap.size f i∧
   ((s.pre enc C.prog fn conds apart (w.forCall tape i).memory i.args∧X (w.forCall tape i).memory i.args)∧sizedMet enc C.prog fn (OpenSpec.ofChange s) apart (w.forCall tape i).memory i.args)∧a.holds C.prog (lone (Frame.enter C.prog f i.args .normal) [] (w.forCall tape i)))
 (contract : ∀(W:World) (base:Nat) (args:Array Value) (ds gs:List (DataW H)) (before:List MemPlace),
   (∀(j:Nat) t v,fn.params[j]? =some t→args[j]? =some v→Value.okWide C.prog W .any base t v)→
   DataW.Whole enc C.prog fn.params.toList s.vars apart W args.toList ds gs before→
   W.ShapedOpen C.prog→X W args→
   Calls C.prog f args W fun e W'=>∃v,e=.returned v∧s.post enc C.prog fn apart fresh handsOn again W args v W') :
 ReturnsInHanded a C os f .any (fun w args=>(s.pre enc C.prog fn conds apart w args∧X w args)∧sizedMet enc C.prog fn (OpenSpec.ofChange s) apart w args) (s.post enc C.prog fn apart fresh handsOn again):=by
 refine returnsInHanded_of_calls own started noInit witness ?_
 intro w tape i _ hsh _ hok hpre _
 obtain⟨_,_,_,fn',hfn',_,_,_,_,hval⟩:=hok
 have e:fn'=fn:=Option.some.inj (hfn'.symm.trans hfn)
 subst e
 obtain⟨⟨⟨ds,gs,before,hw,_⟩,hx⟩,_⟩:=hpre
 have hw':=DataW.Whole.of_heap (w':=w.forCall tape i) (by rfl) hw
 refine (contract (w.forCall tape i) w.heap.size i.args ds gs before hval hw' hsh (hX _ _ _ (by rfl) hx)).mono fun e W' ⟨v,he,hp⟩=>?_
 subst he
 exact ChangeSpec.post_blind hp
theorem ownM:ownKnob Tryz.prog.godebug=none:=by kernel_rfl
theorem laidOutM:laidOutB Tryz.prog=true:=by kernel_rfl
namespace Ax
def shGm:List AtTy:=[.s,.r [.i .i64],.r [.i .i64],.i .i64,.r [.s],.i .i64,.s,.s,.i .i64,.i .i64,.i .i64,.s,.s,.s,.r [.s],.r [.i .i64],.r [.i .i64],.i .i64,.i .i64,.i .i64,.i .i64,.i .i64,.i .i64,.b,.s,.s,.s,.i .i64,.i .i64,.b]
theorem flat_gm:flatT tyT 6 37=some shGm:=by kernel_rfl
theorem szw {x:List (List UInt8)} (h:SzA (.r [.s]) x):LxZ x:=by
 unfold SzA at h
 refine⟨h.1,fun y hy=>?_⟩
 have:=h.2 y hy
 unfold SzE SzEs SzA at this
 exact this
theorem szn {x:List Int} (h:SzA (.r [.i .i64]) x):(x.length:Int)≤9223372036854775807:=by
 unfold SzA at h
 exact h.1
theorem szs {x:List UInt8} (h:SzA .s x):(x.length:Int)≤9223372036854775807:=by
 unfold SzA at h
 exact h
theorem vok_gm {w:World} {fz:Nat→Prop} {l:List PV} {cs:List Value} (h:VOk w fz shGm l cs) : ∃g:Gm,l=gmR g∧GmZ g:=by
 obtain⟨a0,_,_,_,rfl, -,z0, -,a1,_,_,_,rfl, -,z1, -,a2,_,_,_,rfl, -,z2, -,a3,_,_,_,rfl, -, -, -,a4,_,_,_,rfl, -,z4, -,a5,_,_,_,rfl, -, -, -,a6,_,_,_,rfl, -,z6, -,a7,_,_,_,rfl, -,z7, -,a8,_,_,_,rfl, -, -, -,a9,_,_,_,rfl, -, -, -,h⟩:=h
 obtain⟨b0,_,_,_,rfl, -, -, -,b1,_,_,_,rfl, -,y1, -,b2,_,_,_,rfl, -,y2, -,b3,_,_,_,rfl, -,y3, -,b4,_,_,_,rfl, -,y4, -,b5,_,_,_,rfl, -,y5, -,b6,_,_,_,rfl, -,y6, -,b7,_,_,_,rfl, -, -, -,b8,_,_,_,rfl, -, -, -,b9,_,_,_,rfl, -, -, -,h⟩:=h
 obtain⟨c0,_,_,_,rfl, -, -, -,c1,_,_,_,rfl, -, -, -,c2,_,_,_,rfl, -, -, -,c3,_,_,_,rfl, -, -, -,c4,_,_,_,rfl, -,x4, -,c5,_,_,_,rfl, -,x5, -,c6,_,_,_,rfl, -,x6, -,c7,_,_,_,rfl, -, -, -,c8,_,_,_,rfl, -, -, -,c9,_,_,_,rfl, -, -, -,rfl, -⟩:=h
 exact⟨⟨⟨a0,a1,a2,a3⟩,a4,⟨a5,a6,a7⟩,a8,a9,⟨b0,b1,b2⟩,b3,b4,b5,b6,b7,b8,⟨b9,c0,⟨c1,c2,c3,c4⟩,c5,c6,c7,c8⟩,c9⟩,rfl,⟨⟨⟨szs z0,szn z1,szn z2⟩,szw z4,⟨szs z6,szs z7⟩⟩,⟨szs y1,szs y2⟩,szs y3,szw y4,szn y5,szn y6,⟨szs x4,szs x5,szs x6⟩⟩⟩
def e0 (W:World):Env:=⟨fun _=>none,fun _=>0,fun _=>0,fun b=>b<W.heap.size,fun _=>False,fun _=>False⟩
theorem e0_ok {W:World} (h:Gl W):FzW W (e0 W).fz :=⟨fun _ h=>h,W,h,fun _ h=>h,Below.refl _ _⟩
theorem law_true {f:FuncId} {S:FSpec} (h:FOk Tryz.prog f S) {args:List PV} {pre:Prop} (hs:S args=some ⟨[pre],.bt,[]⟩) (hp:pre) {W:World} (hg:Gl W) {vals:Array Value} (hl:Rs W (e0 W) args vals.toList) :
 Calls Tryz.prog f vals W fun e W'=>e=.returned (.bool true)∧Below W.heap.size W W':=by
 refine (h.run args _ hs (fun p hm=>by rw [List.mem_singleton.1 hm];exact hp) W (e0 W) vals (e0_ok hg) hl).mono ?_
 rintro en w' ⟨u,e',rfl,hP⟩
 have hv:=hP.val
 unfold R at hv
 subst hv
 exact⟨rfl,⟨hP.chg.os,hP.chg.tape,hP.chg.output,hP.chg.size,fun b hb=>hP.chg.block b hb fun ⟨k,hk,_⟩=>hk.elim⟩⟩
theorem Rsl_one {W:World} {e:Env} {p:PV} {u:Value} (h:R W e p u):Rs W e [p] [u]:=by
 unfold Rs
 exact⟨u,[],rfl,h,by unfold Rs;rfl⟩
theorem Rsl_cons {W:World} {e:Env} {p:PV} {u:Value} {l:List PV} {v:List Value} (h:R W e p u) (h2:Rs W e l v):Rs W e (p::l) (u::v):=by
 unfold Rs
 exact⟨u,v,rfl,h,h2⟩
end Ax
end Go.Proofs.YtpmakcfjdkaegaaGreatDoor
namespace Go.Proofs.YtpmakcfjdkaegaaGreatDoor
namespace Ax
set_option maxRecDepth 100000
set_option maxHeartbeats 2000000
structure TsN (t:TS):Prop where
 v:(t.values.length:Int)≤1073741824
 c:(t.counts.length:Int)≤1073741824
structure SuN (u:Su):Prop where
 ts:TsN u.ts
 l:(u.lex.length:Int)≤1073741824
structure GmN (g:Gm):Prop where
 su:SuN (gSu g)
 r:(g.racks.length:Int)≤1073741824
 s:(g.scores.length:Int)≤1073741824
 k:(g.clocks.length:Int)≤1073741824
section
variable {α:Type} {l L:List α} {k:Int} {d:α}
theorem cp_set (h0:0≤k) (h1:k<l.length) (h2:L.length=l.length) (h3:L.take k.toNat=l.take k.toNat):(L.set k.toNat (l.getD k.toNat d)).take (k+1).toNat =l.take (k+1).toNat :=by
 have h4:k.toNat<l.length:=by omega
 rw [show (k+1).toNat =k.toNat+1 from by omega,List.take_add_one,List.take_add_one,List.take_set_of_le (Nat.le_refl _),h3,List.getElem?_set_self (by omega),List.getD_eq_getElem?_getD,List.getElem?_eq_getElem h4]
 rfl
theorem cp_all (h1:(l.length:Int)≤k) (h2:L.length=l.length) (h3:L.take k.toNat=l.take k.toNat):L=l:=by
 rw [←List.take_of_length_le (l:=L) (i:=k.toNat) (by omega),h3,List.take_of_length_le (by omega)]
end
def sp_l_toInt64S (p:Pr):FSpec:=fsp (a1 aN) (fun l=>p.leP (p.len l) 1073741824) (fun l=>.osl 0) (fun l=>[(0,.own [.i .i64] l 2)])
theorem ok_l_toInt64S:FOk Tryz.prog 46 (sp_l_toInt64S std):=by
 refine FOk.go (c:=cx std [] [] 0) (cx_ok .nil .nil) mixed Tryz.func46 rfl rfl rfl (by kernel_rfl) ?_
 rintro l hp
 refine⟨rfl,?_⟩
 obtain⟨H,hH⟩ : ∃H:Hd (Int×List Int),H=⟨fun (k,L)=>0≤k∧k≤l.length∧L.length=l.length∧L.take k.toNat=l.take k.toNat,fun (k,L)=>(l.length-k).toNat,(· < ·)⟩:=⟨_,rfl⟩
 have hl : ∀m n,H.lt m n→m<n:=by subst hH;exact fun _ _ h=>h
 generalize hP:std=p
 cbv
 repeat' first
  | (refine fun (_:Unit)=>?_;cbv)
  | (refine Or.inr ⟨8,[],[.s 4 (.i .i64),.o 0 [.i .i64]],[],[],H,rfl,hl,?_,fun ((k,L):Int×List Int) hk=>?_⟩<;>cbv)
  | (refine And.intro (fun h=>?_) (fun h=>?_)<;>cbv)
  | (refine And.intro ?_ ?_)
 all_goals subst hP hH
 all_goals clear hl
 all_goals try dsimp only at hk
 all_goals try dsimp only
 all_goals try exact fin
 all_goals obtain⟨q0,q1,q2,q3⟩:=hk
 ·have hlt:k<(l.length:Int):=lt_of h
  exact⟨by show 0≤k+1;omega,by show k+1≤(l.length:Int);omega,by show (L.set k.toNat _).length =l.length;rw [List.length_set];exact q2,cp_set q0 hlt q2 q3⟩
 ·rw [cp_all (ge_of h) q2 q3]
def sp_l_toStringS (p:Pr):FSpec:=fsp (a1 aW) (fun l=>p.leP (p.len l) 1073741824) (fun l=>.osl 0) (fun l=>[(0,.own [.s] l 9)])
theorem ok_l_toStringS:FOk Tryz.prog 45 (sp_l_toStringS std):=by
 refine FOk.go (c:=cx std [] [] 0) (cx_ok .nil .nil) mixed Tryz.func45 rfl rfl rfl (by kernel_rfl) ?_
 rintro l hp
 refine⟨rfl,?_⟩
 obtain⟨H,hH⟩ : ∃H:Hd (Int×List (List UInt8)),H=⟨fun (k,L)=>0≤k∧k≤l.length∧L.length=l.length∧L.take k.toNat=l.take k.toNat,fun (k,L)=>(l.length-k).toNat,(· < ·)⟩:=⟨_,rfl⟩
 have hl : ∀m n,H.lt m n→m<n:=by subst hH;exact fun _ _ h=>h
 generalize hP:std=p
 cbv
 repeat' first
  | (refine fun (_:Unit)=>?_;cbv)
  | (refine Or.inr ⟨8,[],[.s 4 (.i .i64),.o 0 [.s]],[],[],H,rfl,hl,?_,fun ((k,L):Int×List (List UInt8)) hk=>?_⟩<;>cbv)
  | (refine And.intro (fun h=>?_) (fun h=>?_)<;>cbv)
  | (refine And.intro ?_ ?_)
 all_goals subst hP hH
 all_goals clear hl
 all_goals try dsimp only at hk
 all_goals try dsimp only
 all_goals try exact fin
 all_goals obtain⟨q0,q1,q2,q3⟩:=hk
 ·have hlt:k<(l.length:Int):=lt_of h
  exact⟨by show 0≤k+1;omega,by show k+1≤(l.length:Int);omega,by show (L.set k.toNat _).length =l.length;rw [List.length_set];exact q2,cp_set q0 hlt q2 q3⟩
 ·rw [cp_all (ge_of h) q2 q3]
def sp_l_toTileSet (p:Pr):FSpec:=fsp (a1 (aA aTs)) (fun t=>TsN t) (fun t=>.agg (tsK t (.osl 0) (.osl 1))) (fun t=>[(0,.own [.i .i64] t.values 2),(1,.own [.i .i64] t.counts 2)])
theorem ok_l_toTileSet:FOk Tryz.prog 69 (sp_l_toTileSet std):=by
 refine FOk.go (c:=cx std [(46,sp_l_toInt64S std)] [] 0) (cx_ok (.cons ok_l_toInt64S .nil) .nil) mixed Tryz.func69 rfl rfl rfl (by kernel_rfl) ?_
 rintro t hp
 refine⟨rfl,?_⟩
 unfold sp_l_toInt64S
 generalize hP:std=p
 cbv
 repeat' first
  | (refine fun (_:Unit)=>?_;cbv)
  | (refine And.intro (fun h=>?_) (fun h=>?_)<;>cbv)
  | (refine And.intro ?_ ?_)
  | (refine Or.inl (fun (_:Unit)=>?_);cbv)
 all_goals subst hP
 all_goals try exact fin
 ·exact hp.v
 ·exact hp.c
def sp_l_toLexicon (p:Pr):FSpec:=fsp (a1 (aA aLex)) (fun ws=>p.leP (p.len ws) 1073741824) (fun ws=>.agg [.osl 0]) (fun ws=>[(0,.own [.s] ws 9)])
theorem ok_l_toLexicon:FOk Tryz.prog 70 (sp_l_toLexicon std):=by
 refine FOk.go (c:=cx std [(45,sp_l_toStringS std)] [] 0) (cx_ok (.cons ok_l_toStringS .nil) .nil) mixed Tryz.func70 rfl rfl rfl (by kernel_rfl) ?_
 rintro ws hp
 refine⟨rfl,?_⟩
 unfold sp_l_toStringS
 generalize hP:std=p
 cbv
 repeat' first
  | (refine fun (_:Unit)=>?_;cbv)
  | (refine And.intro (fun h=>?_) (fun h=>?_)<;>cbv)
  | (refine And.intro ?_ ?_)
  | (refine Or.inl (fun (_:Unit)=>?_);cbv)
 all_goals subst hP
 all_goals try exact fin
def sp_l_toBoard (p:Pr):FSpec:=fsp (a1 (aA aBd)) (fun b=>True) (fun b=>.agg (bdK b))
theorem ok_l_toBoard:FOk Tryz.prog 44 (sp_l_toBoard std):=by
 refine FOk.go (c:=cx std [] [] 0) (cx_ok .nil .nil) mixed Tryz.func44 rfl rfl rfl (by kernel_rfl) ?_
 rintro b hp
 refine⟨rfl,?_⟩
 generalize hP:std=p
 cbv
 repeat' first
  | (refine fun (_:Unit)=>?_;cbv)
  | (refine And.intro (fun h=>?_) (fun h=>?_)<;>cbv)
  | (refine And.intro ?_ ?_)
  | (refine Or.inl (fun (_:Unit)=>?_);cbv)
 all_goals subst hP
 all_goals try exact fin
def sp_l_toPlay (p:Pr):FSpec:=fsp (a1 (aA aPl)) (fun q=>True) (fun q=>.agg (plK q))
theorem ok_l_toPlay:FOk Tryz.prog 48 (sp_l_toPlay std):=by
 refine FOk.go (c:=cx std [] [] 0) (cx_ok .nil .nil) mixed Tryz.func48 rfl rfl rfl (by kernel_rfl) ?_
 rintro q hp
 refine⟨rfl,?_⟩
 generalize hP:std=p
 cbv
 repeat' first
  | (refine fun (_:Unit)=>?_;cbv)
  | (refine And.intro (fun h=>?_) (fun h=>?_)<;>cbv)
  | (refine And.intro ?_ ?_)
  | (refine Or.inl (fun (_:Unit)=>?_);cbv)
 all_goals subst hP
 all_goals try exact fin
def sp_l_toLast (p:Pr):FSpec:=fsp (a1 (aA aLa)) (fun x=>True) (fun x=>.agg (laK x))
theorem ok_l_toLast:FOk Tryz.prog 47 (sp_l_toLast std):=by
 refine FOk.go (c:=cx std [(48,sp_l_toPlay std)] [] 0) (cx_ok (.cons ok_l_toPlay .nil) .nil) mixed Tryz.func47 rfl rfl rfl (by kernel_rfl) ?_
 rintro x hp
 refine⟨rfl,?_⟩
 unfold sp_l_toPlay
 generalize hP:std=p
 cbv
 repeat' first
  | (refine fun (_:Unit)=>?_;cbv)
  | (refine And.intro (fun h=>?_) (fun h=>?_)<;>cbv)
  | (refine And.intro ?_ ?_)
  | (refine Or.inl (fun (_:Unit)=>?_);cbv)
 all_goals subst hP
 all_goals try exact fin
def sp_l_toSetup (p:Pr):FSpec:=fsp (a1 (aA aSu)) (fun u=>SuN u) (fun u=>.agg (suK u (.osl 0) (.osl 1) (.osl 2))) (fun u=>[(0,.own [.i .i64] u.ts.values 2),(1,.own [.i .i64] u.ts.counts 2),(2,.own [.s] u.lex 9)])
theorem ok_l_toSetup:FOk Tryz.prog 20 (sp_l_toSetup std):=by
 refine FOk.go (c:=cx std [(69,sp_l_toTileSet std),(70,sp_l_toLexicon std),(44,sp_l_toBoard std)] [] 0) (cx_ok (.cons ok_l_toTileSet (.cons ok_l_toLexicon (.cons ok_l_toBoard .nil))) .nil) mixed Tryz.func20 rfl rfl rfl (by kernel_rfl) ?_
 rintro u hp
 refine⟨rfl,?_⟩
 unfold sp_l_toTileSet sp_l_toLexicon sp_l_toBoard
 generalize hP:std=p
 cbv
 repeat' first
  | (refine fun (_:Unit)=>?_;cbv)
  | (refine And.intro (fun h=>?_) (fun h=>?_)<;>cbv)
  | (refine And.intro ?_ ?_)
  | (refine Or.inl (fun (_:Unit)=>?_);cbv)
 all_goals subst hP
 all_goals try exact fin
 ·exact hp.l
def sp_l_toGame (p:Pr):FSpec:=fsp (a1 (aA aGm)) (fun g=>GmN g) (fun g=>.agg (gmO6 g)) (fun g=>gmH6 g)
theorem ok_l_toGame:FOk Tryz.prog 11 (sp_l_toGame std):=by
 refine FOk.go (c:=cx std [(20,sp_l_toSetup std),(44,sp_l_toBoard std),(45,sp_l_toStringS std),(46,sp_l_toInt64S std),(47,sp_l_toLast std)] [] 0) (cx_ok (.cons ok_l_toSetup (.cons ok_l_toBoard (.cons ok_l_toStringS (.cons ok_l_toInt64S (.cons ok_l_toLast .nil))))) .nil) mixed Tryz.func11 rfl rfl rfl (by kernel_rfl) ?_
 rintro g hp
 refine⟨rfl,?_⟩
 unfold sp_l_toSetup sp_l_toBoard sp_l_toStringS sp_l_toInt64S sp_l_toLast
 generalize hP:std=p
 cbv
 repeat' first
  | (refine fun (_:Unit)=>?_;cbv)
  | (refine And.intro (fun h=>?_) (fun h=>?_)<;>cbv)
  | (refine And.intro ?_ ?_)
  | (refine Or.inl (fun (_:Unit)=>?_);cbv)
 all_goals subst hP
 all_goals try exact fin
 ·exact hp.su
 ·exact hp.r
 ·exact hp.s
 ·exact hp.k
end Ax
end Go.Proofs.YtpmakcfjdkaegaaGreatDoor
namespace Go.Proofs.YtpmakcfjdkaegaaGreatDoor
namespace Ax
set_option maxRecDepth 100000
set_option maxHeartbeats 2000000
def qeN (a b:List Int):Bool:=a==b
def qeW (a b:List (List UInt8)):Bool:=a==b
def qeTs (a b:TS):Bool:=a.letters==b.letters&&(qeN a.values b.values&&(qeN a.counts b.counts&&a.blanks==b.blanks))
def qeBd (a b:Bd):Bool:=a.size==b.size&&(a.prem==b.prem&&a.cells==b.cells)
def qePl (a b:Pl):Bool:=a.row==b.row&&(a.col==b.col&&(a.down==b.down&&a.word==b.word))
def qeLa (a b:La):Bool:=a.kind==b.kind&&(a.player==b.player&&(qePl a.play b.play&&(a.before==b.before&&(a.drawn==b.drawn&&(a.score==b.score&&a.zeros==b.zeros)))))
def qeSu (a b:Su):Bool:=qeTs a.ts b.ts&&(qeW a.lex b.lex&&(qeBd a.bd b.bd&&(a.secs==b.secs&&a.rule==b.rule)))
def qeGm (a b:Gm):Bool:=qeSu (gSu a) (gSu b)&&(qeBd a.bd b.bd&&(a.bag==b.bag&&(qeW a.racks b.racks&&(qeN a.scores b.scores&&(qeN a.clocks b.clocks&&(a.player==b.player&&(a.zeros==b.zeros&&(qeLa a.last b.last&&a.over==b.over))))))))
theorem qeN_r (a:List Int):qeN a a=true:=by simp [qeN]
theorem qeW_r (a:List (List UInt8)):qeW a a=true:=by simp [qeW]
theorem qeBd_r (a:Bd):qeBd a a=true:=by simp [qeBd]
theorem qePl_r (a:Pl):qePl a a=true:=by simp [qePl]
theorem qeTs_r (a:TS):qeTs a a=true:=by simp [qeTs,qeN_r]
theorem qeLa_r (a:La):qeLa a a=true:=by simp [qeLa,qePl_r]
theorem qeSu_r (a:Su):qeSu a a=true:=by simp [qeSu,qeTs_r,qeW_r,qeBd_r]
theorem qeGm_r (a:Gm):qeGm a a=true:=by simp [qeGm,qeSu_r,qeBd_r,qeW_r,qeN_r,qeLa_r]
section
variable {α:Type} {a b:List α} {k:Int} {d:α}
theorem eq_tk (h0:0≤k) (h1:k<a.length) (hl:a.length=b.length) (h:a.take k.toNat=b.take k.toNat) (he:a.getD k.toNat d=b.getD k.toNat d):a.take (k+1).toNat =b.take (k+1).toNat :=by
 rw [tk h0 h1 d,tk h0 (by omega) d,h,he]
theorem eq_al (h1:(a.length:Int)≤k) (hl:a.length=b.length) (h:a.take k.toNat=b.take k.toNat):a=b:=by
 rw [←tk_all h1,h,tk_all (by omega)]
theorem eq_no (he:a.getD k.toNat d≠b.getD k.toNat d):a≠b:=fun h=>he (by rw [h])
end
def sp_l_eqInt64S (p:Pr):FSpec:=fsp (ac aN (a1 aN)) (fun (a,b)=>p.leP (p.len a) 1073741824) (fun (a,b)=>.b (qeN a b))
theorem ok_l_eqInt64S:FOk Tryz.prog 57 (sp_l_eqInt64S std):=by
 refine FOk.go (c:=cx std [] [] 0) (cx_ok .nil .nil) mixed Tryz.func57 rfl rfl rfl (by kernel_rfl) ?_
 rintro ⟨a,b⟩ hp
 dsimp only at hp
 refine⟨rfl,?_⟩
 obtain⟨H,hH⟩ : ∃H:Hd (Int),H=⟨fun k=>0≤k∧k≤a.length∧a.length=b.length∧a.take k.toNat=b.take k.toNat,fun k=>(a.length-k).toNat,(· < ·)⟩:=⟨_,rfl⟩
 have hl : ∀m n,H.lt m n→m<n:=by subst hH;exact fun _ _ h=>h
 generalize hP:std=p
 generalize hB0:qeN=B0
 cbv
 repeat' first
  | (refine fun (_:Unit)=>?_;cbv)
  | (refine Or.inr ⟨11,[],[.s 5 (.i .i64)],[],[],H,rfl,hl,?_,fun (k:Int) hk=>?_⟩<;>cbv)
  | (refine And.intro (fun h=>?_) (fun h=>?_)<;>cbv)
  | (refine And.intro ?_ ?_)
 all_goals subst hP hB0 hH
 all_goals clear hl
 all_goals try dsimp only at hk
 all_goals try dsimp only
 all_goals try exact fin
 ·show (a==b)=false
  exact beq_eq_false_iff_ne.2 fun e=>beq_eq_false_iff_ne.1 (show ((a.length:Int)==(b.length:Int))=false from h) (by rw [e])
 all_goals obtain⟨q0,q1,q2,q3⟩:=hk
 ·show (a==b)=false
  exact beq_eq_false_iff_ne.2 (eq_no (d:=0) (k:=k) (beq_eq_false_iff_ne.1 (show (a.getD k.toNat 0==b.getD k.toNat 0)=false from h)))
 ·have hlt:k<(a.length:Int):=lt_of (by assumption)
  exact⟨by show 0≤k+1;omega,by show k+1≤(a.length:Int);omega,q2,eq_tk q0 hlt q2 q3 (beq_iff_eq.1 (show (a.getD k.toNat 0==b.getD k.toNat 0)=true from h))⟩
 ·show (a==b)=true
  exact beq_iff_eq.2 (eq_al (ge_of h) q2 q3)
def sp_l_eqStringS (p:Pr):FSpec:=fsp (ac aW (a1 aW)) (fun (a,b)=>p.leP (p.len a) 1073741824) (fun (a,b)=>.b (qeW a b))
theorem ok_l_eqStringS:FOk Tryz.prog 56 (sp_l_eqStringS std):=by
 refine FOk.go (c:=cx std [] [] 0) (cx_ok .nil .nil) mixed Tryz.func56 rfl rfl rfl (by kernel_rfl) ?_
 rintro ⟨a,b⟩ hp
 dsimp only at hp
 refine⟨rfl,?_⟩
 obtain⟨H,hH⟩ : ∃H:Hd (Int),H=⟨fun k=>0≤k∧k≤a.length∧a.length=b.length∧a.take k.toNat=b.take k.toNat,fun k=>(a.length-k).toNat,(· < ·)⟩:=⟨_,rfl⟩
 have hl : ∀m n,H.lt m n→m<n:=by subst hH;exact fun _ _ h=>h
 generalize hP:std=p
 generalize hB0:qeW=B0
 cbv
 repeat' first
  | (refine fun (_:Unit)=>?_;cbv)
  | (refine Or.inr ⟨11,[],[.s 5 (.i .i64)],[],[],H,rfl,hl,?_,fun (k:Int) hk=>?_⟩<;>cbv)
  | (refine And.intro (fun h=>?_) (fun h=>?_)<;>cbv)
  | (refine And.intro ?_ ?_)
 all_goals subst hP hB0 hH
 all_goals clear hl
 all_goals try dsimp only at hk
 all_goals try dsimp only
 all_goals try exact fin
 ·show (a==b)=false
  exact beq_eq_false_iff_ne.2 fun e=>beq_eq_false_iff_ne.1 (show ((a.length:Int)==(b.length:Int))=false from h) (by rw [e])
 all_goals obtain⟨q0,q1,q2,q3⟩:=hk
 ·show (a==b)=false
  exact beq_eq_false_iff_ne.2 (eq_no (d:=[]) (k:=k) (beq_eq_false_iff_ne.1 (show (a.getD k.toNat []==b.getD k.toNat [])=false from h)))
 ·have hlt:k<(a.length:Int):=lt_of (by assumption)
  exact⟨by show 0≤k+1;omega,by show k+1≤(a.length:Int);omega,q2,eq_tk q0 hlt q2 q3 (beq_iff_eq.1 (show (a.getD k.toNat []==b.getD k.toNat [])=true from h))⟩
 ·show (a==b)=true
  exact beq_iff_eq.2 (eq_al (ge_of h) q2 q3)
def sp_l_eqTileSet (p:Pr):FSpec:=fsp (ac (aA aTs) (a1 (aA aTs))) (fun (a,b)=>TsN a) (fun (a,b)=>.b (qeTs a b))
theorem ok_l_eqTileSet:FOk Tryz.prog 73 (sp_l_eqTileSet std):=by
 refine FOk.go (c:=cx std [(57,sp_l_eqInt64S std)] [] 0) (cx_ok (.cons ok_l_eqInt64S .nil) .nil) mixed Tryz.func73 rfl rfl rfl (by kernel_rfl) ?_
 rintro ⟨a,b⟩ hp
 dsimp only at hp
 refine⟨rfl,?_⟩
 unfold sp_l_eqInt64S
 generalize hP:std=p
 generalize hB0:qeTs=B0
 generalize hB1:qeN=B1
 cbv
 repeat' first
  | (refine fun (_:Unit)=>?_;cbv)
  | (refine And.intro (fun h=>?_) (fun h=>?_)<;>cbv)
  | (refine And.intro ?_ ?_)
  | (refine Or.inl (fun (_:Unit)=>?_);cbv)
 all_goals subst hP hB0 hB1
 all_goals try exact fin
 all_goals (try simp only [sd_eqI,sd_eqS,sd_eqB,eta_ts,eta_bd,eta_pl,eta_la,eta_su] at *)
 all_goals first
  | exact hp.v
  | exact hp.c
  | simp only [qeTs, *,Bool.true_and,Bool.false_and,Bool.and_true]
def sp_l_eqLexicon (p:Pr):FSpec:=fsp (ac (aA aLex) (a1 (aA aLex))) (fun (a,b)=>p.leP (p.len a) 1073741824) (fun (a,b)=>.b (qeW a b))
theorem ok_l_eqLexicon:FOk Tryz.prog 74 (sp_l_eqLexicon std):=by
 refine FOk.go (c:=cx std [(56,sp_l_eqStringS std)] [] 0) (cx_ok (.cons ok_l_eqStringS .nil) .nil) mixed Tryz.func74 rfl rfl rfl (by kernel_rfl) ?_
 rintro ⟨a,b⟩ hp
 dsimp only at hp
 refine⟨rfl,?_⟩
 unfold sp_l_eqStringS
 generalize hP:std=p
 generalize hB0:qeW=B0
 cbv
 repeat' first
  | (refine fun (_:Unit)=>?_;cbv)
  | (refine And.intro (fun h=>?_) (fun h=>?_)<;>cbv)
  | (refine And.intro ?_ ?_)
  | (refine Or.inl (fun (_:Unit)=>?_);cbv)
 all_goals subst hP hB0
 all_goals try exact fin
def sp_l_eqBoard (p:Pr):FSpec:=fsp (ac (aA aBd) (a1 (aA aBd))) (fun (a,b)=>True) (fun (a,b)=>.b (qeBd a b))
theorem ok_l_eqBoard:FOk Tryz.prog 55 (sp_l_eqBoard std):=by
 refine FOk.go (c:=cx std [] [] 0) (cx_ok .nil .nil) mixed Tryz.func55 rfl rfl rfl (by kernel_rfl) ?_
 rintro ⟨a,b⟩ hp
 dsimp only at hp
 refine⟨rfl,?_⟩
 generalize hP:std=p
 generalize hB0:qeBd=B0
 cbv
 repeat' first
  | (refine fun (_:Unit)=>?_;cbv)
  | (refine And.intro (fun h=>?_) (fun h=>?_)<;>cbv)
  | (refine And.intro ?_ ?_)
  | (refine Or.inl (fun (_:Unit)=>?_);cbv)
 all_goals subst hP hB0
 all_goals try exact fin
 all_goals (try simp only [sd_eqI,sd_eqS,sd_eqB,eta_ts,eta_bd,eta_pl,eta_la,eta_su] at *)
 all_goals first
  | simp only [qeBd, *,Bool.true_and,Bool.false_and,Bool.and_true]
def sp_l_eqPlay (p:Pr):FSpec:=fsp (ac (aA aPl) (a1 (aA aPl))) (fun (a,b)=>True) (fun (a,b)=>.b (qePl a b))
theorem ok_l_eqPlay:FOk Tryz.prog 126 (sp_l_eqPlay std):=by
 refine FOk.go (c:=cx std [] [] 0) (cx_ok .nil .nil) mixed Tryz.func126 rfl rfl rfl (by kernel_rfl) ?_
 rintro ⟨a,b⟩ hp
 dsimp only at hp
 refine⟨rfl,?_⟩
 generalize hP:std=p
 generalize hB0:qePl=B0
 cbv
 repeat' first
  | (refine fun (_:Unit)=>?_;cbv)
  | (refine And.intro (fun h=>?_) (fun h=>?_)<;>cbv)
  | (refine And.intro ?_ ?_)
  | (refine Or.inl (fun (_:Unit)=>?_);cbv)
 all_goals subst hP hB0
 all_goals try exact fin
 all_goals (try simp only [sd_eqI,sd_eqS,sd_eqB,eta_ts,eta_bd,eta_pl,eta_la,eta_su] at *)
 all_goals first
  | simp only [qePl, *,Bool.true_and,Bool.false_and,Bool.and_true]
def sp_l_eqLast (p:Pr):FSpec:=fsp (ac (aA aLa) (a1 (aA aLa))) (fun (a,b)=>True) (fun (a,b)=>.b (qeLa a b))
theorem ok_l_eqLast:FOk Tryz.prog 58 (sp_l_eqLast std):=by
 refine FOk.go (c:=cx std [(126,sp_l_eqPlay std)] [] 0) (cx_ok (.cons ok_l_eqPlay .nil) .nil) mixed Tryz.func58 rfl rfl rfl (by kernel_rfl) ?_
 rintro ⟨a,b⟩ hp
 dsimp only at hp
 refine⟨rfl,?_⟩
 unfold sp_l_eqPlay
 generalize hP:std=p
 generalize hB0:qeLa=B0
 generalize hB1:qePl=B1
 cbv
 repeat' first
  | (refine fun (_:Unit)=>?_;cbv)
  | (refine And.intro (fun h=>?_) (fun h=>?_)<;>cbv)
  | (refine And.intro ?_ ?_)
  | (refine Or.inl (fun (_:Unit)=>?_);cbv)
 all_goals subst hP hB0 hB1
 all_goals try exact fin
 all_goals (try simp only [sd_eqI,sd_eqS,sd_eqB,eta_ts,eta_bd,eta_pl,eta_la,eta_su] at *)
 all_goals first
  | simp only [qeLa, *,Bool.true_and,Bool.false_and,Bool.and_true]
def sp_l_eqSetup (p:Pr):FSpec:=fsp (ac (aA aSu) (a1 (aA aSu))) (fun (a,b)=>SuN a) (fun (a,b)=>.b (qeSu a b))
theorem ok_l_eqSetup:FOk Tryz.prog 23 (sp_l_eqSetup std):=by
 refine FOk.go (c:=cx std [(73,sp_l_eqTileSet std),(74,sp_l_eqLexicon std),(55,sp_l_eqBoard std)] [] 0) (cx_ok (.cons ok_l_eqTileSet (.cons ok_l_eqLexicon (.cons ok_l_eqBoard .nil))) .nil) mixed Tryz.func23 rfl rfl rfl (by kernel_rfl) ?_
 rintro ⟨a,b⟩ hp
 dsimp only at hp
 refine⟨rfl,?_⟩
 unfold sp_l_eqTileSet sp_l_eqLexicon sp_l_eqBoard
 generalize hP:std=p
 generalize hB0:qeSu=B0
 generalize hB1:qeTs=B1
 generalize hB2:qeW=B2
 generalize hB3:qeBd=B3
 cbv
 repeat' first
  | (refine fun (_:Unit)=>?_;cbv)
  | (refine And.intro (fun h=>?_) (fun h=>?_)<;>cbv)
  | (refine And.intro ?_ ?_)
  | (refine Or.inl (fun (_:Unit)=>?_);cbv)
 all_goals subst hP hB0 hB1 hB2 hB3
 all_goals try exact fin
 all_goals (try simp only [sd_eqI,sd_eqS,sd_eqB,eta_ts,eta_bd,eta_pl,eta_la,eta_su] at *)
 all_goals first
  | exact hp.ts
  | exact hp.l
  | simp only [qeSu, *,Bool.true_and,Bool.false_and,Bool.and_true]
def sp_l_eqGame (p:Pr):FSpec:=fsp (ac (aA aGm) (a1 (aA aGm))) (fun (a,b)=>GmN a) (fun (a,b)=>.b (qeGm a b))
theorem ok_l_eqGame:FOk Tryz.prog 14 (sp_l_eqGame std):=by
 refine FOk.go (c:=cx std [(23,sp_l_eqSetup std),(55,sp_l_eqBoard std),(56,sp_l_eqStringS std),(57,sp_l_eqInt64S std),(58,sp_l_eqLast std)] [] 0) (cx_ok (.cons ok_l_eqSetup (.cons ok_l_eqBoard (.cons ok_l_eqStringS (.cons ok_l_eqInt64S (.cons ok_l_eqLast .nil))))) .nil) mixed Tryz.func14 rfl rfl rfl (by kernel_rfl) ?_
 rintro ⟨a,b⟩ hp
 dsimp only at hp
 refine⟨rfl,?_⟩
 unfold sp_l_eqSetup sp_l_eqBoard sp_l_eqStringS sp_l_eqInt64S sp_l_eqLast
 generalize hP:std=p
 generalize hB0:qeGm=B0
 generalize hB1:qeSu=B1
 generalize hB2:qeBd=B2
 generalize hB3:qeW=B3
 generalize hB4:qeN=B4
 generalize hB5:qeLa=B5
 cbv
 repeat' first
  | (refine fun (_:Unit)=>?_;cbv)
  | (refine And.intro (fun h=>?_) (fun h=>?_)<;>cbv)
  | (refine And.intro ?_ ?_)
  | (refine Or.inl (fun (_:Unit)=>?_);cbv)
 all_goals subst hP hB0 hB1 hB2 hB3 hB4 hB5
 all_goals try exact fin
 all_goals (try simp only [sd_eqI,sd_eqS,sd_eqB,eta_ts,eta_bd,eta_pl,eta_la,eta_su] at *)
 all_goals first
  | exact hp.su
  | exact hp.r
  | exact hp.s
  | exact hp.k
  | simp only [qeGm, *,Bool.true_and,Bool.false_and,Bool.and_true]
end Ax
end Go.Proofs.YtpmakcfjdkaegaaGreatDoor
namespace Go.Proofs.YtpmakcfjdkaegaaGreatDoor
namespace Ax
set_option maxRecDepth 100000
set_option maxHeartbeats 2000000
def digI:Nat→Nat→List UInt8→List UInt8
 | 0,_,out=>out
 | f+1,n,out=>if n=0 then out else digI f (n/10) (UInt8.ofNat (48+n%10)::out)
theorem digI_fuel : ∀(f n:Nat) (out:List UInt8),n≤f→digI f n out=digI n n out
 | 0,n,out,h=>by obtain rfl:n=0:=by omega
                 rfl
 | f+1,0,out,_=>by simp [digI]
 | f+1,n+1,out,h=>by
   rw [digI,digI,if_neg (by omega),if_neg (by omega),digI_fuel f _ _ (by omega),digI_fuel n _ _ (by omega)]
theorem digI_step {n:Nat} (h:n≠0) (out:List UInt8):digI n n out=digI (n/10) (n/10) (UInt8.ofNat (48+n%10)::out):=by
 obtain⟨m,rfl⟩ : ∃m,n=m+1:=⟨n-1,by omega⟩
 rw [digI,if_neg h,digI_fuel m _ _ (by omega)]
def markI (k:Int):List UInt8:=if k≤0 then [109,48] else 109::digI k.toNat k.toNat []
def marksW (k:Int) (n:Nat):List (List UInt8):=(List.range n).map fun i:Nat=>markI (k+(i:Int))
def marksN (k:Int) (n:Nat):List Int:=(List.range n).map fun i:Nat=>k+(i:Int)
theorem marksW_len (k:Int) (n:Nat):(marksW k n).length =n:=by simp [marksW]
theorem marksN_len (k:Int) (n:Nat):(marksN k n).length =n:=by simp [marksN]
def markW (k:Int) (l:List (List UInt8)):List (List UInt8):=marksW k l.length
def markN (k:Int) (l:List Int):List Int:=marksN k l.length
def toW (k:Int) (l:List (List UInt8)) (i:Int):List (List UInt8):=marksW k i.toNat++l.drop i.toNat
def toN (k:Int) (l:List Int) (i:Int):List Int:=marksN k i.toNat++l.drop i.toNat
def endW (k:Int) (l:List (List UInt8)):Int:=k+l.length
def endN (k:Int) (l:List Int):Int:=k+l.length
section
variable {k i:Int} {l:List (List UInt8)} {m:List Int}
theorem toW_0:toW k l 0=l:=by simp [toW,marksW]
theorem toN_0:toN k m 0=m:=by simp [toN,marksN]
theorem toW_n (h:(l.length:Int)≤i) (h1:i≤l.length):toW k l i=markW k l:=by
 rw [toW,dn h,List.append_nil,markW,show i.toNat=l.length by omega]
theorem toN_n (h:(m.length:Int)≤i) (h1:i≤m.length):toN k m i=markN k m:=by
 rw [toN,dn h,List.append_nil,markN,show i.toNat=m.length by omega]
theorem toW_s (h0:0≤i) (h:i<l.length):(toW k l i).set i.toNat (markI (k+i))=toW k l (i+1):=by
 unfold toW
 rw [List.set_append_right _ _ (by rw [marksW_len];omega),marksW_len,Nat.sub_self,dc h0 h [],List.set_cons_zero,show (i+1).toNat =i.toNat+1 by omega,marksW,marksW,List.range_succ,List.map_append,List.append_assoc]
 simp [show ((i.toNat:Nat):Int)=i by omega]
theorem toN_s (h0:0≤i) (h:i<m.length):(toN k m i).set i.toNat (k+i)=toN k m (i+1):=by
 unfold toN
 rw [List.set_append_right _ _ (by rw [marksN_len];omega),marksN_len,Nat.sub_self,dc h0 h 0,List.set_cons_zero,show (i+1).toNat =i.toNat+1 by omega,marksN,marksN,List.range_succ,List.map_append,List.append_assoc]
 simp [show ((i.toNat:Nat):Int)=i by omega]
theorem toW_l (h0:0≤i) (h:i≤l.length):(toW k l i).length =l.length:=by
 unfold toW;rw [List.length_append,marksW_len,List.length_drop];omega
theorem toN_l (h0:0≤i) (h:i≤m.length):(toN k m i).length =m.length:=by
 unfold toN;rw [List.length_append,marksN_len,List.length_drop];omega
end
structure KnP {α:Type} (k:Int) (l:List α):Prop where
 lo:0≤k
 hi:k≤274877906944
 n:(l.length:Int)≤1073741824
def mN:MArgs (List Int×Int):=⟨fun H l=>match H,l with
 | [x],[.osl 0,.i .i64 k]=>match hN x with
   | some (0,L)=>some (L,k)
   | _=>none
 | _,_=>none,fun a=>[(0,.own [.i .i64] a.1 2)],fun a=>[.osl 0,.i .i64 a.2],fun H l a h=>by
   split at h
   ·split at h
    ·rename_i h0
     cases h
     exact⟨by rw [hN_ok h0],rfl⟩
    ·cases h
   ·cases h⟩
def mW:MArgs (List (List UInt8)×Int):=⟨fun H l=>match H,l with
 | [x],[.osl 0,.i .i64 k]=>match hW x with
   | some (0,L)=>some (L,k)
   | _=>none
 | _,_=>none,fun a=>[(0,.own [.s] a.1 9)],fun a=>[.osl 0,.i .i64 a.2],fun H l a h=>by
   split at h
   ·split at h
    ·rename_i h0
     cases h
     exact⟨by rw [hW_ok h0],rfl⟩
    ·cases h
   ·cases h⟩
def mLx:MArgs (List (List UInt8)×Int):=⟨fun H l=>match H,l with
 | [x],[.agg [.osl 0],.i .i64 k]=>match hW x with
   | some (0,L)=>some (L,k)
   | _=>none
 | _,_=>none,fun a=>[(0,.own [.s] a.1 9)],fun a=>[.agg [.osl 0],.i .i64 a.2],fun H l a h=>by
   split at h
   ·split at h
    ·rename_i h0
     cases h
     exact⟨by rw [hW_ok h0],rfl⟩
    ·cases h
   ·cases h⟩
def mTs:MArgs (TS×Int):=⟨fun H l=>match H,l with
 | [x,y],[.agg [.s a,.osl 0,.osl 1,.i .i64 d],.i .i64 k]=>match hN x,hN y with
   | some (0,v),some (1,c)=>some (⟨a,v,c,d⟩,k)
   | _,_=>none
 | _,_=>none,fun a=>[(0,.own [.i .i64] a.1.values 2),(1,.own [.i .i64] a.1.counts 2)],fun a=>[.agg (tsK a.1 (.osl 0) (.osl 1)),.i .i64 a.2],fun H l a h=>by
   split at h
   ·split at h
    ·rename_i h0 h1
     cases h
     exact⟨by rw [hN_ok h0,hN_ok h1],rfl⟩
    ·cases h
   ·cases h⟩
def mSu:MArgs (Su×Int):=⟨fun H l=>match H,l with
 | [x,y,z],[.agg [.s a,.osl 0,.osl 1,.i .i64 d,.osl 2,.i .i64 e,.s f,.s g,.i .i64 i,.i .i64 j],.i .i64 k]=>match hN x,hN y,hW z with
   | some (0,v),some (1,c),some (2,w)=>some (⟨⟨a,v,c,d⟩,w,⟨e,f,g⟩,i,j⟩,k)
   | _,_,_=>none
 | _,_=>none,fun a=>[(0,.own [.i .i64] a.1.ts.values 2),(1,.own [.i .i64] a.1.ts.counts 2),(2,.own [.s] a.1.lex 9)],fun a=>[.agg (suK a.1 (.osl 0) (.osl 1) (.osl 2)),.i .i64 a.2],fun H l a h=>by
   split at h
   ·split at h
    ·rename_i h0 h1 h2
     cases h
     exact⟨by rw [hN_ok h0,hN_ok h1,hW_ok h2],rfl⟩
    ·cases h
   ·cases h⟩
def gmH6d:AH→Option (List Int×List Int×List (List UInt8)×List (List UInt8)×List Int×List Int)
 | [x0,x1,x2,x3,x4,x5]=>match hN x0,hN x1,hW x2,hW x3,hN x4,hN x5 with
   | some (0,v),some (1,c),some (2,l),some (3,r),some (4,s),some (5,k)=>some (v,c,l,r,s,k)
   | _,_,_,_,_,_=>none
 | _=>none
theorem gmH6d_ok {H:AH} {v c:List Int} {l r:List (List UInt8)} {s k:List Int} (h:gmH6d H=some (v,c,l,r,s,k)) (g:Gm):H=gmH6 (fillG g v c l r s k):=by
 unfold gmH6d at h
 split at h
 ·split at h
  ·rename_i h0 h1 h2 h3 h4 h5
   cases h
   rw [hN_ok h0,hN_ok h1,hW_ok h2,hW_ok h3,hN_ok h4,hN_ok h5]
   rfl
  ·cases h
 ·cases h
def gmO6d (l:List PV):Option Gm:=match gmO l with
 | some (g,[.osl 0,.osl 1,.osl 2,.osl 3,.osl 4,.osl 5])=>some g
 | _=>none
def mGm6:MArgs (Gm×Int):=⟨fun H l=>match l with
 | [.agg x,.i .i64 k]=>match gmO6d x,gmH6d H with
   | some g,some (v,c,lx,r,s,ck)=>some (fillG g v c lx r s ck,k)
   | _,_=>none
 | _=>none,fun a=>gmH6 a.1,fun a=>[.agg (gmO6 a.1),.i .i64 a.2],fun H l a h=>by
   split at h
   ·split at h
    ·rename_i h0 h1
     cases h
     unfold gmO6d at h0
     split at h0
     ·rename_i h2
      cases h0
      obtain⟨v,c,lx,rk,sc,ck,hx,rfl⟩:=gmO_eq h2
      cases hx
      exact⟨gmH6d_ok h1 _,rfl⟩
     ·cases h0
    ·cases h
   ·cases h⟩
def endTs (k:Int) (t:TS):Int:=endN (endN k t.values) t.counts
def endSu (k:Int) (u:Su):Int:=endW (endTs k u.ts) u.lex
def endG1 (k:Int) (g:Gm):Int:=endW (endSu k (gSu g)) g.racks
def endG2 (k:Int) (g:Gm):Int:=endN (endG1 k g) g.scores
def endGm (k:Int) (g:Gm):Int:=endN (endG2 k g) g.clocks
def markGm (k:Int) (g:Gm):Gm:=fillG g (markN k g.ts.values) (markN (endN k g.ts.values) g.ts.counts) (markW (endTs k g.ts) g.lex) (markW (endSu k (gSu g)) g.racks) (markN (endG1 k g) g.scores) (markN (endG2 k g) g.clocks)
def sp_l_markText (p:Pr):FSpec:=fsp (a1 aI) (fun k=>p.leP 0 k∧p.leP k 1152921504606846976) (fun k=>.s (markI k))
theorem ok_l_markText:FOk Tryz.prog 127 (sp_l_markText std):=by
 refine FOk.go (c:=cx std [] [] 0) (cx_ok .nil .nil) mixed Tryz.func127 rfl rfl rfl (by kernel_rfl) ?_
 rintro k hp
 refine⟨rfl,?_⟩
 obtain⟨H,hH⟩ : ∃H:Hd (Int×List UInt8),H=⟨fun (m,out)=>0≤m∧m≤k∧out.length+m≤1152921504606846976∧digI m.toNat m.toNat out=digI k.toNat k.toNat [],fun (m,out)=>m.toNat,(· < ·)⟩:=⟨_,rfl⟩
 have hl : ∀m n,H.lt m n→m<n:=by subst hH;exact fun _ _ h=>h
 generalize hP:std=p
 generalize hB0:markI=B0
 cbv
 repeat' first
  | (refine fun (_:Unit)=>?_;cbv)
  | (refine Or.inr ⟨6,[],[.s 0 (.i .i64),.s 3 .s],[],[],H,rfl,hl,?_,fun ((m,out):Int×List UInt8) hk=>?_⟩<;>cbv)
  | (refine And.intro (fun h=>?_) (fun h=>?_)<;>cbv)
  | (refine And.intro ?_ ?_)
 all_goals subst hP hB0 hH
 all_goals clear hl
 all_goals try dsimp only at hk
 all_goals try dsimp only
 all_goals try exact fin
 ·rw [markI,if_pos (show k≤0 by simpa using h)]
 all_goals obtain⟨q0,q1,q2,q3⟩:=hk
 all_goals have q2:(out.length:Int)+m≤1152921504606846976:=q2
 all_goals have hk0:0<k:=by have : std.leI k 0=false:=(by assumption);simpa using this
 ·exact in64 (by show _≤(1:Int)+(out.length:Int)∧(1:Int)+(out.length:Int)≤_;omega)
 ·have hm:0<m:=lt_of h
  have e1:std.rem m 10=m%10:=rem_nn q0
  have e2:std.quo m 10=m/10:=quo_nn q0
  have e3:std.app (std.toS [std.add 48 (std.rem m 10)]) out=UInt8.ofNat (48+m.toNat%10)::out:=by
   rw [e1]
   show UInt8.ofNat (48+m%10).toNat ::out=_
   rw [show (48+m%10).toNat =48+m.toNat%10 by omega]
  show 0≤std.quo m 10∧std.quo m 10≤k∧((std.app (std.toS [std.add 48 (std.rem m 10)]) out).length : Int)+std.quo m 10≤1152921504606846976∧digI (std.quo m 10).toNat (std.quo m 10).toNat (std.app (std.toS [std.add 48 (std.rem m 10)]) out)=digI k.toNat k.toNat []
  rw [e2,e3]
  have g1:((UInt8.ofNat (48+m.toNat%10)::out).length : Int)=(out.length:Int)+1:=rfl
  refine⟨by omega,by omega,by omega,?_⟩
  rw [←q3,digI_step (n:=m.toNat) (by omega) out,show (m/10).toNat =m.toNat/10 by omega]
 ·have hm:m≤0:=ge_of h
  show 109::out=markI k
  rw [markI,if_neg (by omega),←q3,show m.toNat=0 by omega];rfl
def sp_l_markInt64S (p:Pr):MSpec:=msp mN (fun (l,k)=>KnP k l) (fun (l,k)=>.i .i64 (endN k l)) (fun (l,k)=>[(0,.own [.i .i64] (markN k l) 2)])
theorem ok_l_markInt64S:MOk Tryz.prog 60 (sp_l_markInt64S std):=by
 refine MOk.go (c:=cx std [] [] 1) (cx_ok .nil .nil) mixed Tryz.func60 rfl rfl (by kernel_rfl) ?_
 rintro ⟨l,k⟩ hp
 dsimp only at hp
 refine⟨rfl,?_⟩
 obtain⟨H,hH⟩ : ∃H:Hd (Int×Int×List Int),H=⟨fun (m,i,L)=>0≤i∧i≤l.length∧m=k+i∧L=toN k l i,fun (m,i,L)=>(l.length-i).toNat,(· < ·)⟩:=⟨_,rfl⟩
 have hl : ∀m n,H.lt m n→m<n:=by subst hH;exact fun _ _ h=>h
 generalize hP:std=p
 generalize hB0:endN=B0
 generalize hB1:markN=B1
 generalize hB2:toN=B2
 cbv
 repeat' first
  | (refine fun (_:Unit)=>?_;cbv)
  | (refine Or.inr ⟨6,[],[.s 1 (.i .i64),.s 5 (.i .i64),.o 0 [.i .i64]],[],[],H,rfl,hl,?_,fun ((m,i,L):Int×Int×List Int) hk=>?_⟩<;>cbv)
  | (refine And.intro (fun h=>?_) (fun h=>?_)<;>cbv)
  | (refine And.intro ?_ ?_)
 all_goals subst hP hB0 hB1 hB2 hH
 all_goals clear hl
 all_goals try dsimp only at hk
 all_goals try dsimp only
 all_goals try exact fin
 ·exact⟨Int.le_refl 0,Int.natCast_nonneg _,by omega,toN_0.symm⟩
 all_goals obtain⟨q0,q1,rfl,rfl⟩:=hk
 all_goals have q1:i≤(l.length:Int):=q1
 all_goals have hl:=toN_l (k:=k) q0 q1
 all_goals have b1:=hp.lo
 all_goals have b2:=hp.hi
 all_goals have b3:=hp.n
 all_goals try (have hlt:i<(l.length:Int):=by have h7:i<((toN k l i).length : Int):=lt_of (by assumption);omega)
 all_goals try (have hge:(l.length:Int)≤i:=by have h7:((toN k l i).length : Int)≤i:=ge_of (by assumption);omega)
 ·exact in64 (by show _≤k+i+1∧k+i+1≤_;omega)
 ·exact in64 (by show _≤i+1∧i+1≤_;omega)
 ·exact⟨by show 0≤i+1;omega,by show i+1≤(l.length:Int);omega,by show k+i+1=k+(i+1);omega,toN_s q0 hlt⟩
 ·show ((l.length:Int)-(i+1)).toNat < ((l.length:Int)-i).toNat
  omega
 ·rw [toN_n hge q1]
 ·show k+i=k+(l.length:Int)
  omega
def sp_l_markStringS (p:Pr):MSpec:=msp mW (fun (l,k)=>KnP k l) (fun (l,k)=>.i .i64 (endW k l)) (fun (l,k)=>[(0,.own [.s] (markW k l) 9)])
theorem ok_l_markStringS:MOk Tryz.prog 59 (sp_l_markStringS std):=by
 refine MOk.go (c:=cx std [(127,sp_l_markText std)] [] 1) (cx_ok (.cons ok_l_markText .nil) .nil) mixed Tryz.func59 rfl rfl (by kernel_rfl) ?_
 rintro ⟨l,k⟩ hp
 dsimp only at hp
 refine⟨rfl,?_⟩
 unfold sp_l_markText
 obtain⟨H,hH⟩ : ∃H:Hd (Int×Int×List (List UInt8)),H=⟨fun (m,i,L)=>0≤i∧i≤l.length∧m=k+i∧L=toW k l i,fun (m,i,L)=>(l.length-i).toNat,(· < ·)⟩:=⟨_,rfl⟩
 have hl : ∀m n,H.lt m n→m<n:=by subst hH;exact fun _ _ h=>h
 generalize hP:std=p
 generalize hB0:endW=B0
 generalize hB1:markW=B1
 generalize hB2:markI=B2
 generalize hB3:toW=B3
 cbv
 repeat' first
  | (refine fun (_:Unit)=>?_;cbv)
  | (refine Or.inr ⟨6,[],[.s 1 (.i .i64),.s 5 (.i .i64),.o 0 [.s]],[],[],H,rfl,hl,?_,fun ((m,i,L):Int×Int×List (List UInt8)) hk=>?_⟩<;>cbv)
  | (refine And.intro (fun h=>?_) (fun h=>?_)<;>cbv)
  | (refine And.intro ?_ ?_)
 all_goals subst hP hB0 hB1 hB2 hB3 hH
 all_goals clear hl
 all_goals try dsimp only at hk
 all_goals try dsimp only
 all_goals try exact fin
 ·exact⟨Int.le_refl 0,Int.natCast_nonneg _,by omega,toW_0.symm⟩
 all_goals obtain⟨q0,q1,rfl,rfl⟩:=hk
 all_goals have q1:i≤(l.length:Int):=q1
 all_goals have hl:=toW_l (k:=k) q0 q1
 all_goals have b1:=hp.lo
 all_goals have b2:=hp.hi
 all_goals have b3:=hp.n
 all_goals try (have hlt:i<(l.length:Int):=by have h7:i<((toW k l i).length : Int):=lt_of (by assumption);omega)
 all_goals try (have hge:(l.length:Int)≤i:=by have h7:((toW k l i).length : Int)≤i:=ge_of (by assumption);omega)
 ·show 0≤k+i
  have:=hp.lo;omega
 ·show k+i≤1152921504606846976
  have:=hp.n;have:=hp.hi;omega
 ·exact in64 (by show _≤k+i+1∧k+i+1≤_;omega)
 ·exact in64 (by show _≤i+1∧i+1≤_;omega)
 ·exact⟨by show 0≤i+1;omega,by show i+1≤(l.length:Int);omega,by show k+i+1=k+(i+1);omega,toW_s q0 hlt⟩
 ·show ((l.length:Int)-(i+1)).toNat < ((l.length:Int)-i).toNat
  omega
 ·rw [toW_n hge q1]
 ·show k+i=k+(l.length:Int)
  omega
structure KnT (k:Int) (t:TS):Prop where
 lo:0≤k
 hi:k≤17179869184
 n:TsN t
structure KnS (k:Int) (u:Su):Prop where
 lo:0≤k
 hi:k≤8589934592
 n:SuN u
structure KnG (k:Int) (g:Gm):Prop where
 lo:0≤k
 hi:k≤4294967296
 n:GmN g
def sp_l_markTileSet (p:Pr):MSpec:=msp mTs (fun (t,k)=>KnT k t) (fun (t,k)=>.i .i64 (endTs k t)) (fun (t,k)=>[(0,.own [.i .i64] (markN k t.values) 2),(1,.own [.i .i64] (markN (endN k t.values) t.counts) 2)])
theorem ok_l_markTileSet:MOk Tryz.prog 80 (sp_l_markTileSet std):=by
 refine MOk.go (c:=cx std [] [(60,sp_l_markInt64S std)] 2) (cx_ok .nil (.cons ok_l_markInt64S .nil)) mixed Tryz.func80 rfl rfl (by kernel_rfl) ?_
 rintro ⟨t,k⟩ hp
 dsimp only at hp
 refine⟨rfl,?_⟩
 unfold sp_l_markInt64S
 generalize hP:std=p
 generalize hB0:endN=B0
 generalize hB1:markN=B1
 generalize hB2:endTs=B2
 cbv
 repeat' first
  | (refine fun (_:Unit)=>?_;cbv)
  | (refine And.intro (fun h=>?_) (fun h=>?_)<;>cbv)
  | (refine And.intro ?_ ?_)
  | (refine Or.inl (fun (_:Unit)=>?_);cbv)
 all_goals subst hP hB0 hB1 hB2
 all_goals try exact fin
 all_goals have b1:=hp.lo
 all_goals have b2:=hp.hi
 all_goals have b3:=hp.n.v
 all_goals have b4:=hp.n.c
 ·exact⟨b1,by omega,b3⟩
 ·exact⟨by show 0≤k+(t.values.length:Int);omega,by show k+(t.values.length:Int)≤_;omega,b4⟩
def sp_l_markLexicon (p:Pr):MSpec:=msp mLx (fun (l,k)=>KnP k l) (fun (l,k)=>.i .i64 (endW k l)) (fun (l,k)=>[(0,.own [.s] (markW k l) 9)])
theorem ok_l_markLexicon:MOk Tryz.prog 81 (sp_l_markLexicon std):=by
 refine MOk.go (c:=cx std [] [(59,sp_l_markStringS std)] 1) (cx_ok .nil (.cons ok_l_markStringS .nil)) mixed Tryz.func81 rfl rfl (by kernel_rfl) ?_
 rintro ⟨l,k⟩ hp
 dsimp only at hp
 refine⟨rfl,?_⟩
 unfold sp_l_markStringS
 generalize hP:std=p
 generalize hB0:endW=B0
 generalize hB1:markW=B1
 cbv
 repeat' first
  | (refine fun (_:Unit)=>?_;cbv)
  | (refine And.intro (fun h=>?_) (fun h=>?_)<;>cbv)
  | (refine And.intro ?_ ?_)
  | (refine Or.inl (fun (_:Unit)=>?_);cbv)
 all_goals subst hP hB0 hB1
 all_goals try exact fin
def sp_l_markSetup (p:Pr):MSpec:=msp mSu (fun (u,k)=>KnS k u) (fun (u,k)=>.i .i64 (endSu k u)) (fun (u,k)=>[(0,.own [.i .i64] (markN k u.ts.values) 2),(1,.own [.i .i64] (markN (endN k u.ts.values) u.ts.counts) 2),(2,.own [.s] (markW (endTs k u.ts) u.lex) 9)])
theorem ok_l_markSetup:MOk Tryz.prog 30 (sp_l_markSetup std):=by
 refine MOk.go (c:=cx std [] [(80,sp_l_markTileSet std),(81,sp_l_markLexicon std)] 3) (cx_ok .nil (.cons ok_l_markTileSet (.cons ok_l_markLexicon .nil))) mixed Tryz.func30 rfl rfl (by kernel_rfl) ?_
 rintro ⟨u,k⟩ hp
 dsimp only at hp
 refine⟨rfl,?_⟩
 unfold sp_l_markTileSet sp_l_markLexicon
 generalize hP:std=p
 generalize hB0:endN=B0
 generalize hB1:markN=B1
 generalize hB2:endTs=B2
 generalize hB3:endSu=B3
 generalize hB4:markW=B4
 generalize hB5:endW=B5
 cbv
 repeat' first
  | (refine fun (_:Unit)=>?_;cbv)
  | (refine And.intro (fun h=>?_) (fun h=>?_)<;>cbv)
  | (refine And.intro ?_ ?_)
  | (refine Or.inl (fun (_:Unit)=>?_);cbv)
 all_goals subst hP hB0 hB1 hB2 hB3 hB4 hB5
 all_goals try exact fin
 all_goals have b1:=hp.lo
 all_goals have b2:=hp.hi
 all_goals have b3:=hp.n.ts.v
 all_goals have b4:=hp.n.ts.c
 ·exact⟨b1,by omega,hp.n.ts⟩
 ·exact⟨by show 0≤k+(u.ts.values.length:Int)+(u.ts.counts.length:Int);omega,by show k+(u.ts.values.length:Int)+(u.ts.counts.length:Int)≤_;omega,hp.n.l⟩
def sp_l_markGame (p:Pr):MSpec:=msp mGm6 (fun (g,k)=>KnG k g) (fun (g,k)=>.i .i64 (endGm k g)) (fun (g,k)=>[(0,.own [.i .i64] (markN k g.ts.values) 2),(1,.own [.i .i64] (markN (endN k g.ts.values) g.ts.counts) 2),(2,.own [.s] (markW (endTs k g.ts) g.lex) 9),(3,.own [.s] (markW (endSu k (gSu g)) g.racks) 9),(4,.own [.i .i64] (markN (endG1 k g) g.scores) 2),(5,.own [.i .i64] (markN (endG2 k g) g.clocks) 2)])
theorem ok_l_markGame:MOk Tryz.prog 15 (sp_l_markGame std):=by
 refine MOk.go (c:=cx std [] [(30,sp_l_markSetup std),(59,sp_l_markStringS std),(60,sp_l_markInt64S std)] 6) (cx_ok .nil (.cons ok_l_markSetup (.cons ok_l_markStringS (.cons ok_l_markInt64S .nil)))) mixed Tryz.func15 rfl rfl (by kernel_rfl) ?_
 rintro ⟨g,k⟩ hp
 dsimp only at hp
 refine⟨rfl,?_⟩
 unfold sp_l_markSetup sp_l_markStringS sp_l_markInt64S
 generalize hP:std=p
 generalize hB0:endN=B0
 generalize hB1:markN=B1
 generalize hB2:endTs=B2
 generalize hB3:endSu=B3
 generalize hB4:markW=B4
 generalize hB5:endW=B5
 generalize hB6:endG1=B6
 generalize hB7:endG2=B7
 generalize hB8:endGm=B8
 cbv
 repeat' first
  | (refine fun (_:Unit)=>?_;cbv)
  | (refine And.intro (fun h=>?_) (fun h=>?_)<;>cbv)
  | (refine And.intro ?_ ?_)
  | (refine Or.inl (fun (_:Unit)=>?_);cbv)
 all_goals subst hP hB0 hB1 hB2 hB3 hB4 hB5 hB6 hB7 hB8
 all_goals try exact fin
 all_goals have b1:=hp.lo
 all_goals have b2:=hp.hi
 all_goals have b3:=hp.n.su.ts.v
 all_goals have b4:=hp.n.su.ts.c
 all_goals have b5:=hp.n.su.l
 all_goals have b6:=hp.n.r
 all_goals have b7:=hp.n.s
 all_goals have b3:(g.ts.values.length:Int)≤1073741824:=b3
 all_goals have b4:(g.ts.counts.length:Int)≤1073741824:=b4
 all_goals have b5:(g.lex.length:Int)≤1073741824:=b5
 ·exact⟨b1,by omega,hp.n.su⟩
 ·exact⟨by show 0≤k+(g.ts.values.length:Int)+(g.ts.counts.length:Int)+(g.lex.length:Int);omega,by show k+(g.ts.values.length:Int)+(g.ts.counts.length:Int)+(g.lex.length:Int)≤_;omega,hp.n.r⟩
 ·exact⟨by show 0≤k+(g.ts.values.length:Int)+(g.ts.counts.length:Int)+(g.lex.length:Int)+(g.racks.length:Int);omega,by show k+(g.ts.values.length:Int)+(g.ts.counts.length:Int)+(g.lex.length:Int)+(g.racks.length:Int)≤_;omega,hp.n.s⟩
 ·exact⟨by show 0≤k+(g.ts.values.length:Int)+(g.ts.counts.length:Int)+(g.lex.length:Int)+(g.racks.length:Int)+(g.scores.length:Int);omega,by show k+(g.ts.values.length:Int)+(g.ts.counts.length:Int)+(g.lex.length:Int)+(g.racks.length:Int)+(g.scores.length:Int)≤_;omega,hp.n.k⟩
end Ax
end Go.Proofs.YtpmakcfjdkaegaaGreatDoor
