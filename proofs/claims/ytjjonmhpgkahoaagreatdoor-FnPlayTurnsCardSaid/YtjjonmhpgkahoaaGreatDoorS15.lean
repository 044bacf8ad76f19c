/-
  What the start world holds, out of its row's list; What the start world holds, out of its row's list; what games and plays come in; The laws package: what a law hands on: rows, tile sets, setups, games; The laws package: whether two rows, two tile sets, two games are the same; Games of the spec package: clocks, changes, ends; Valid tile sets and setups, of the spec package; Valid games, of the spec package; Plain laws: small letters of strings, letters on a board, words of a lexicon, first places of bytes; Words for rows that a call makes: append of new elements, bytes made of a string and stored into, strings made of bytes; The library's functions as the plain walker sees them; slices.Clone as the plain walker sees it.
  Conditions: none; the library's own variables are as the program lays them.
-/
import Derived.Test.YtjjonmhpgkahoaaGreatDoorS01
import Derived.Test.YtjjonmhpgkahoaaGreatDoorS14
import Derived.Lib.LaidCase
import Derived.PinnedBridge
import Derived.ProofKit
import Derived.LaidMore
import Derived.Shelf.Vars
import Derived.ShapedOpen
import Derived.Test.YtjjonmhpgkahoaaGreatDoorRows
import Derived.Test.YtjjonmhpgkahoaaGreatDoorS09
import Derived.Test.YtjjonmhpgkahoaaGreatDoorS13
import Derived.Lay
import Derived.SizedLaws
import Derived.ChangeSlices
import Derived.Test.YtjjonmhpgkahoaaGreatDoorS10
import Derived.Shelf.Strings.CaseAny
import Derived.Lib.Builder
import Derived.Shelf.Spec.SearchS
import Derived.Lib.Replace
import Derived.Lib.SplitLaws
set_option linter.unusedSimpArgs false
set_option linter.unusedVariables false
namespace Go.Proofs.YtjjonmhpgkahoaaGreatDoor
open Go.RowKit Go.Shelf
set_option maxRecDepth 100000
namespace Ax
theorem max_gl {W:World} (h:W.ShapedOpen Tryz.prog) : ∃m:Int,W.cell? ⟨1,0,none⟩=some (.int .i64 m):=
 cell_of_shapedOpen_int (g:=1) (t:=3) (zero:=#[.int .i64 0]) (k:=.i64) h (of_decide_eq_true (by kernel_rfl)) (by kernel_rfl) rfl (by kernel_rfl) (by kernel_rfl) Tryz.underlying3
theorem gl_of {W:World} (hsh:W.ShapedOpen Tryz.prog) {l:List (String×DataW Unit)} (h:laidMet Tryz.prog l W) (h1:("unicode.CaseRanges",Pinned.caseRanges)∈l) (h2:("unicode/utf8.first",Pinned.utf8First)∈l) (h3:("unicode/utf8.acceptRanges",Lib.acceptData)∈l):Gl W:=by
 refine⟨max_gl hsh,?_,?_⟩
 ·exact caseVar_of_reads (ρ:=Tryz.lays159_ren) { Tryz.lays159 with } (by kernel_rfl) ⟨by kernel_rfl,by kernel_rfl,by kernel_rfl,by kernel_rfl,by kernel_rfl,by kernel_rfl⟩ (Pinned.caseRanges_eq ▸ Lib.laidMet.reads h h1)
 ·exact utf8Tabs_of_reads (ρ:=Tryz.lays159_ren) { Tryz.lays159 with } ⟨by kernel_rfl,by kernel_rfl,by kernel_rfl,by kernel_rfl,by kernel_rfl,by kernel_rfl,by kernel_rfl⟩ (Pinned.utf8First_eq ▸ Lib.laidMet.reads h h2) (Lib.laidMet.reads h h3)
end Ax
end Go.Proofs.YtjjonmhpgkahoaaGreatDoor
namespace Go.Proofs.YtjjonmhpgkahoaaGreatDoor
open Go.ChangeShapes Go.WideShapes Go.ChangeAt Go.RowKit Go.Joins
set_option maxRecDepth 100000
theorem change_shaped_and {H:Type} {enc:TypeId×Value→H} {a:Assume} {C:Checked} {os:Os} {f:FuncId} {fn:Func} {s:ChangeSpec} {conds:List PathCond} {apart fresh handsOn again:Bool} {X:World→Array Value→Prop}
 (hX : ∀(w w':World) (args:Array Value),w.heap=w'.heap→X w args→X w' args)
 (own:ownKnob C.prog.godebug=none) (started:os.Started) (noInit:C.prog.inits.idxOf? f=none) (hfn:C.prog.funcs[f]? =some fn)
 (witness : ∃(w:World) (tape:Tape) (i:Input),w.os=os∧(w.forCall tape i).Shaped C.prog∧i.vars=[]∧Input.okWide C.prog (w.forCall tape i) .any w.heap.size f i∧
   ((s.pre enc C.prog fn conds apart (w.forCall tape i).memory i.args∧X (w.forCall tape i).memory i.args)∧sizedMet enc C.prog fn (OpenSpec.ofChange s) apart (w.forCall tape i).memory i.args)∧a.holds C.prog (lone (Frame.enter C.prog f i.args .normal) [] (w.forCall tape i)))
 (contract : ∀(W:World) (base:Nat) (args:Array Value) (ds gs:List (DataW H)) (before:List MemPlace),
   (∀(j:Nat) t v,fn.params[j]? =some t→args[j]? =some v→Value.okWide C.prog W .any base t v)→
   DataW.Whole enc C.prog fn.params.toList s.vars apart W args.toList ds gs before→
   W.ShapedOpen C.prog→X W args→
   Calls C.prog f args W fun e W'=>∃v,e=.returned v∧s.post enc C.prog fn apart fresh handsOn again W args v W') :
 ReturnsInHanded a C os f .any (fun w args=>(s.pre enc C.prog fn conds apart w args∧X w args)∧sizedMet enc C.prog fn (OpenSpec.ofChange s) apart w args) (s.post enc C.prog fn apart fresh handsOn again):=by
 refine returnsInHanded_of_calls own started noInit witness ?_
 intro w tape i _ hsh _ hok hpre _
 obtain⟨_,_,_,fn',hfn',_,_,_,_,hval⟩:=hok
 have e:fn'=fn:=Option.some.inj (hfn'.symm.trans hfn)
 subst e
 obtain⟨⟨⟨ds,gs,before,hw,_⟩,hx⟩,_⟩:=hpre
 have hw':=DataW.Whole.of_heap (w':=w.forCall tape i) (by rfl) hw
 refine (contract (w.forCall tape i) w.heap.size i.args ds gs before hval hw' hsh (hX _ _ _ (by rfl) hx)).mono fun e W' ⟨v,he,hp⟩=>?_
 subst he
 exact ChangeSpec.post_blind hp
theorem ownM:ownKnob Tryz.prog.godebug=none:=by kernel_rfl
theorem laidOutM:laidOutB Tryz.prog=true:=by kernel_rfl
namespace Ax
def e0 (W:World):Env:=⟨fun _=>none,fun _=>0,fun _=>0,fun b=>b<W.heap.size,fun _=>False,fun _=>False⟩
theorem e0_ok {W:World} (h:Gl W):FzW W (e0 W).fz :=⟨fun _ h=>h,W,h,fun _ h=>h,Below.refl _ _⟩
end Ax
end Go.Proofs.YtjjonmhpgkahoaaGreatDoor
namespace Go.Proofs.YtjjonmhpgkahoaaGreatDoor
namespace Ax
set_option maxRecDepth 100000
set_option maxHeartbeats 2000000
structure TsN (t:TS):Prop where
 v:(t.values.length:Int)≤1073741824
 c:(t.counts.length:Int)≤1073741824
structure SuN (u:Su):Prop where
 ts:TsN u.ts
 l:(u.lex.length:Int)≤1073741824
structure GmN (g:Gm):Prop where
 su:SuN (gSu g)
 r:(g.racks.length:Int)≤1073741824
 s:(g.scores.length:Int)≤1073741824
 k:(g.clocks.length:Int)≤1073741824
section
variable {α:Type} {l L:List α} {k:Int} {d:α}
end
end Ax
namespace Ax
set_option maxRecDepth 100000
set_option maxHeartbeats 2000000
def qeN (a b:List Int):Bool:=a==b
def qeW (a b:List (List UInt8)):Bool:=a==b
def qeTs (a b:TS):Bool:=a.letters==b.letters&&(qeN a.values b.values&&(qeN a.counts b.counts&&a.blanks==b.blanks))
theorem qeN_r (a:List Int):qeN a a=true:=by simp [qeN]
theorem qeW_r (a:List (List UInt8)):qeW a a=true:=by simp [qeW]
theorem qeTs_r (a:TS):qeTs a a=true:=by simp [qeTs,qeN_r]
section
variable {α:Type} {a b:List α} {k:Int} {d:α}
theorem eq_tk (h0:0≤k) (h1:k<a.length) (hl:a.length=b.length) (h:a.take k.toNat=b.take k.toNat) (he:a.getD k.toNat d=b.getD k.toNat d):a.take (k+1).toNat =b.take (k+1).toNat :=by
 rw [tk h0 h1 d,tk h0 (by omega) d,h,he]
theorem eq_al (h1:(a.length:Int)≤k) (hl:a.length=b.length) (h:a.take k.toNat=b.take k.toNat):a=b:=by
 rw [←tk_all h1,h,tk_all (by omega)]
theorem eq_no (he:a.getD k.toNat d≠b.getD k.toNat d):a≠b:=fun h=>he (by rw [h])
end
end Ax
namespace Ax
set_option maxRecDepth 100000
set_option maxHeartbeats 2000000
def ckL (g:Gm) (n:Int):List Int:=g.clocks.set g.player.toNat (g.clk g.player-n)
def clockG (g:Gm) (n:Int):Gm:={ g with clocks:=ckL g n }
def gmHk (g g':Gm):AH:=[(0,.cells (gmK g' (.osl 1) (.osl 2) (.osl 3) (.osl 4) (.osl 5) (.osl 7)) 41),(1,.own [.i .i64] g.ts.values 2),(2,.own [.i .i64] g.ts.counts 2),(3,.own [.s] g.lex 9),(4,.own [.s] g.racks 9),
 (5,.own [.i .i64] g.scores 2),(6,.own [.i .i64] g.clocks 2),(7,.own [.i .i64] g'.clocks 2)]
def gmHs (g g':Gm):AH:=[(0,.cells (gmK g' (.osl 1) (.osl 2) (.osl 3) (.osl 4) (.osl 7) (.osl 6)) 41),(1,.own [.i .i64] g.ts.values 2),(2,.own [.i .i64] g.ts.counts 2),(3,.own [.s] g.lex 9),(4,.own [.s] g.racks 9),
 (5,.own [.i .i64] g.scores 2),(6,.own [.i .i64] g.clocks 2),(7,.own [.i .i64] g'.scores 2)]
structure CkP (g:Gm) (n:Int):Prop where
 len:g.clocks.length=2
 ply:g.player=0∨g.player=1
 num : -72000≤g.clk g.player-n∧g.clk g.player-n≤72000
theorem ck_in {g:Gm} {n:Int} (hp:CkP g n):std.inL g.player (std.len g.clocks):=by
 have:=hp.len
 refine⟨?_,?_⟩
 ·rcases hp.ply with h | h<;>omega
 ·show g.player<(g.clocks.length:Int)
  rcases hp.ply with h | h<;>omega
def sp_s_l18Clock (p:Pr):MSpec:=msp (mG (a1 aI)) (fun (g,n)=>CkP g n) (fun (g,n)=>.tup []) (fun (g,n)=>gmHk g { g with clocks:=ckL g n })
theorem ok_s_l18Clock:MOk Tryz.prog 131 (sp_s_l18Clock std):=by
 refine MOk.go (c:=cx std [(194,sp_s_l00Own std)] [] 7) (cx_ok (.cons ok_s_l00Own .nil) .nil) mixed Tryz.func131 rfl rfl (by kernel_rfl) ?_
 rintro ⟨g,n⟩ hp
 dsimp only at hp
 refine⟨rfl,?_⟩
 unfold sp_s_l00Own
 generalize hP:std=p,hB0:ckL=B0
 cbv
 repeat' first
  | (refine fun (_:Unit)=>?_;cbv)
  | (refine aI2 (fun h=>?_) (fun h=>?_)<;>cbv)
  | (refine aI2 ?_ ?_)
  | (refine Or.inl (fun (_:Unit)=>?_);cbv)
 all_goals subst hP hB0
 all_goals have f1:=ck_in hp
 all_goals try exact fin
 ·exact ltM_of (by rw [hp.len];decide)
 ·have:=hp.num
  exact in64 (by show _≤g.clk g.player-n∧g.clk g.player-n≤_;omega)
structure EndP (g:Gm):Prop where
 ts:TsOk g.ts
 rk:g.racks.length=2
 ck:g.clocks.length=2
 len : ∀k:Int,(g.rk k).length ≤7
 clk : ∀k:Int, -36000≤g.clk k
def chgs (g:Gm):List Int:=[chg g 0,chg g 1]
section
variable {g:Gm} {k:Int}
theorem e_sum (hp:EndP g) (k:Int):0≤sumT g.ts (g.rk k)∧sumT g.ts (g.rk k)≤140:=by
 have h1:=sumT_bd hp.ts (g.rk k)
 have h2:=hp.len k
 omega
theorem e_pen (hp:EndP g) (k:Int):0≤pen (g.clk k)∧pen (g.clk k)≤6010:=Go.Proofs.YtjjonmhpgkahoaaGreatDoor.pen_bd (hp.clk k)
theorem e_yes (h:std.eqS (g.rk k) []=true):0-sumT g.ts (g.rk k)-pen (g.clk k)+sumT g.ts (g.rk (1-k))=chg g k:=by
 have h:g.rk k=[]:=by simpa using h
 unfold chg
 rw [h]
 simp only [List.isEmpty_nil,if_true]
 omega
theorem e_no (h:std.eqS (g.rk k) []=false):0-sumT g.ts (g.rk k)-pen (g.clk k)=chg g k:=by
 have h:g.rk k≠[]:=by simpa using h
 unfold chg
 rw [if_neg (by simpa using h)]
 omega
theorem chg_bd (hp:EndP g) (k:Int) : -10000≤chg g k∧chg g k≤10000:=by
 have h1:=e_sum hp k
 have h2:=e_pen hp k
 have h3:=e_sum hp (1-k)
 unfold chg
 split<;>omega
theorem chgs_step (h0:0≤k) (h:k<2):(chgs g).take k.toNat++[chg g k]=(chgs g).take (k+1).toNat :=by
 rw [tk h0 (by show k<2;omega) 0]
 congr 2
 rcases (show k=0∨k=1 from by omega) with rfl | rfl<;>rfl
end
def sp_s_l18Change (p:Pr):FSpec:=fsp (a1 (aP aGm)) (fun g=>EndP g) (fun g=>.osl 0) (fun g=>[(0,.own [.i .i64] (chgs g) 2)])
theorem ok_s_l18Change:FOk Tryz.prog 95 (sp_s_l18Change std):=by
 refine FOk.go (c:=cx std [(191,sp_s_l02Sum std),(98,sp_s_l18Penalty std)] [] 0) (cx_ok (.cons ok_s_l02Sum (.cons ok_s_l18Penalty .nil)) .nil) mixed Tryz.func95 rfl rfl rfl (by kernel_rfl) ?_
 rintro g hp
 refine⟨rfl,?_⟩
 unfold sp_s_l02Sum sp_s_l18Penalty
 obtain⟨H,hH⟩ : ∃H:Hd (Int×List Int),H=⟨fun (k,L)=>0≤k∧k≤2∧L=(chgs g).take k.toNat,fun (k,L)=>(2-k).toNat,(· < ·)⟩:=⟨_,rfl⟩
 have hl : ∀m n,H.lt m n→m<n:=by subst hH;exact fun _ _ h=>h
 generalize hP:std=p,hB0:chgs=B0,hB1:sumT=B1,hB2:pen=B2
 cbv
 repeat' first
  | (refine fun (_:Unit)=>?_;cbv)
  | (refine Or.inr ⟨8,[],[.s 4 (.i .i64),.o 0 [.i .i64]],[.s 3],[],H,rfl,hl,?_,fun ((k,L):Int×List Int) hk=>?_⟩<;>cbv)
  | (refine aI2 (fun h=>?_) (fun h=>?_)<;>cbv)
  | (refine aI2 ?_ ?_)
 all_goals subst hP hB0 hB1 hB2 hH
 all_goals clear hl
 all_goals try dsimp only at hk
 all_goals try dsimp only
 all_goals try exact fin
 all_goals obtain⟨q0,q1,rfl⟩:=hk
 all_goals try (have h1:k<2:=lt_of ‹_›)
 all_goals have a1:=e_sum hp k
 all_goals have a2:=e_pen hp k
 all_goals have a3:=e_sum hp (1-k)
 all_goals have a4:=hp.rk
 all_goals have a5:=hp.ck
 all_goals have a6:=hp.len k
 all_goals have a7:=hp.len (1-k)
 all_goals have a8:=hp.clk k
 ·exact⟨q0,by show k<(g.racks.length:Int);omega⟩
 ·exact ltM_of (n:=(g.rk k).length) (by omega)
 ·exact in64 (by show _≤0-sumT g.ts (g.rk k)∧0-sumT g.ts (g.rk k)≤_;omega)
 ·exact⟨q0,by show k<(g.clocks.length:Int);omega⟩
 ·exact a8
 ·exact in64 (by show _≤0-sumT g.ts (g.rk k)-pen (g.clk k)∧0-sumT g.ts (g.rk k)-pen (g.clk k)≤_;omega)
 ·exact⟨q0,by show k<(g.racks.length:Int);omega⟩
 ·exact⟨by show 0≤1-k;omega,by show 1-k<(g.racks.length:Int);omega⟩
 ·exact ltM_of (n:=(g.rk (1-k)).length) (by omega)
 ·exact in64 (by show _≤0-sumT g.ts (g.rk k)-pen (g.clk k)+sumT g.ts (g.rk (1-k))∧0-sumT g.ts (g.rk k)-pen (g.clk k)+sumT g.ts (g.rk (1-k))≤_;omega)
 ·show (((chgs g).take k.toNat).length : Int)+1≤_
  rw [List.length_take];omega
 ·refine⟨by show 0≤k+1;omega,by show k+1≤2;omega,?_⟩
  show (chgs g).take k.toNat++[0-sumT g.ts (g.rk k)-pen (g.clk k)+sumT g.ts (g.rk (1-k))]=(chgs g).take (k+1).toNat
  rw [e_yes (k:=k) ‹_›,chgs_step q0 h1]
 ·show (((chgs g).take k.toNat).length : Int)+1≤_
  rw [List.length_take];omega
 ·refine⟨by show 0≤k+1;omega,by show k+1≤2;omega,?_⟩
  show (chgs g).take k.toNat++[0-sumT g.ts (g.rk k)-pen (g.clk k)]=(chgs g).take (k+1).toNat
  rw [e_no (k:=k) ‹_›,chgs_step q0 h1]
 ·rw [tk_all (show ((chgs g).length : Int)≤k from ge_of ‹_›)]
structure SetP (g:Gm):Prop where
 en:EndP g
 len:g.scores.length=2
 lo : ∀k:Int, -1000000≤g.sc k
 hi : ∀k:Int,g.sc k≤1000000
def setSc (g:Gm):List Int:=[g.sc 0+chg g 0,g.sc 1+chg g 1]
theorem two_0 {L:List Int} (h:L.length=2):std.inL 0 (std.len L):=⟨Int.le_refl 0,by show (0:Int)<(L.length:Int);omega⟩
theorem two_1 {L:List Int} (h:L.length=2):std.inL 1 (std.len L):=⟨by decide,by show (1:Int)<(L.length:Int);omega⟩
theorem set_num {g:Gm} (h:SetP g) (k:Int) : -9223372036854775808≤g.sc k+chg g k∧g.sc k+chg g k≤9223372036854775807:=by
 have h1:=chg_bd h.en k
 have h2:=h.lo k
 have h3:=h.hi k
 omega
def sp_s_l18Settle (p:Pr):MSpec:=msp (mG a0) (fun (g,_u)=>SetP g) (fun (g,_u)=>.tup []) (fun (g,_u)=>gmHs g { g with scores:=setSc g,over:=true })
theorem ok_s_l18Settle:MOk Tryz.prog 132 (sp_s_l18Settle std):=by
 refine MOk.go (c:=cx std [(95,sp_s_l18Change std)] [] 7) (cx_ok (.cons ok_s_l18Change .nil) .nil) mixed Tryz.func132 rfl rfl (by kernel_rfl) ?_
 rintro ⟨g,_u⟩ hp
 dsimp only at hp
 refine⟨rfl,?_⟩
 unfold sp_s_l18Change
 generalize hP:std=p,hB0:chgs=B0,hB1:setSc=B1
 cbv
 repeat' first
  | (refine fun (_:Unit)=>?_;cbv)
  | (refine aI2 (fun h=>?_) (fun h=>?_)<;>cbv)
  | (refine aI2 ?_ ?_)
  | (refine Or.inl (fun (_:Unit)=>?_);cbv)
 all_goals subst hP hB0 hB1
 all_goals try exact fin
 ·exact two_0 hp.len
 ·exact two_0 hp.len
 ·exact two_0 (L:=chgs g) rfl
 ·exact two_0 (L:=chgs g) rfl
 ·exact in64 (set_num hp 0)
 ·exact two_1 hp.len
 ·exact two_1 hp.len
 ·exact two_1 (L:=chgs g) rfl
 ·exact two_1 (L:=chgs g) rfl
 ·exact in64 (set_num hp 1)
end Ax
namespace Ax
set_option maxRecDepth 100000
set_option maxHeartbeats 2000000
def tripB:Option UInt8→List UInt8→List Int→List Int→Bool
 | p,a::r,v::vs,c::cs=>smallB a&&(aftB p a&&(inR v 0 20&&(inR c 1 20&&tripB (some a) r vs cs)))
 | _,_,_,_=>true
theorem tripB_eq : ∀(l:List UInt8) (p:Option UInt8) (vs cs:List Int),vs.length=l.length→cs.length=l.length→tripB p l vs cs=(smFrom p l&&vcB vs cs)
 | [],p,[],[],_,_=>rfl
 | [],_,_::_,_,h,_=>by simp at h
 | [],_,[],_::_,_,h=>by simp at h
 | _::_,_,[],_,h,_=>by simp at h
 | _::_,_,_::_,[],_,h=>by simp at h
 | a::l,p,v::vs,c::cs,h1,h2=>by
   rw [tripB,smFrom,vcB,tripB_eq l (some a) vs cs (by simpa using h1) (by simpa using h2)]
   cases smallB a<;>cases aftB p a<;>cases inR v 0 20<;>cases inR c 1 20<;>cases smFrom (some a) l<;>simp
theorem smFrom_len : ∀(l:List UInt8) (q:UInt8),smFrom (some q) l=true→smallB q=true→l.length+q.toNat≤122
 | [],q,_,hq=>by
   unfold smallB at hq
   simp only [Bool.and_eq_true,decide_eq_true_eq] at hq
   simp only [List.length_nil]
   omega
 | a::r,q,h,_=>by
   rw [smFrom] at h
   simp only [Bool.and_eq_true,aftB,decide_eq_true_eq] at h
   have h2:=smFrom_len r a h.2.2 h.1
   rw [List.length_cons]
   omega
theorem smFrom_26 {l:List UInt8} (h:smFrom none l=true):l.length≤26:=by
 match l,h with
 | [],_=>exact Nat.zero_le _
 | a::r,h=>
   rw [smFrom] at h
   simp only [Bool.and_eq_true] at h
   have h2:=smFrom_len r a h.2.2 h.1
   have h3:=h.1
   unfold smallB at h3
   simp only [Bool.and_eq_true,decide_eq_true_eq] at h3
   rw [List.length_cons]
   omega
def prevL (l:List UInt8) (k:Nat):Option UInt8:=if k=0 then none else l[k-1]?
theorem tripB_step (L:List UInt8) (V C:List Int) (k:Nat) (h:k<L.length) (h1:k<V.length) (h2:k<C.length) :
 tripB (prevL L k) (L.drop k) (V.drop k) (C.drop k)=(smallB L[k]&&(aftB (prevL L k) L[k]&&(inR V[k] 0 20&&(inR C[k] 1 20&&tripB (prevL L (k+1)) (L.drop (k+1)) (V.drop (k+1)) (C.drop (k+1)))))):=by
 have e:prevL L (k+1)=some L[k]:=by unfold prevL;rw [if_neg (by omega)];simp
 rw [e,List.drop_eq_getElem_cons h,List.drop_eq_getElem_cons h1,List.drop_eq_getElem_cons h2]
 rfl
theorem tsB_trip (t:TS):tsB t=(inR t.letters.length 1 26&&(decide (t.values.length=t.letters.length)&&(decide (t.counts.length=t.letters.length)&&(inR t.blanks 0 4&&(tripB none t.letters t.values t.counts&&decide (t.blanks+t.counts.sum≤120)))))):=by
 unfold tsB
 by_cases h1:t.values.length=t.letters.length
 ·by_cases h2:t.counts.length=t.letters.length
  ·rw [tripB_eq _ _ _ _ h1 h2,decide_eq_true h1,decide_eq_true h2]
   cases hs:smFrom none t.letters
   ·simp
   ·have:=smFrom_26 hs
    have e:inR (t.letters.length:Int) 1 26=decide (1≤t.letters.length):=by
     unfold inR
     rw [Bool.eq_iff_iff]
     simp
     omega
    rw [e]
    simp
  ·rw [decide_eq_false h2]
   simp
 ·rw [decide_eq_false h1]
  simp
def trK (t:TS) (k:Int):Bool:=tripB (prevL t.letters k.toNat) (t.letters.drop k.toNat) (t.values.drop k.toNat) (t.counts.drop k.toNat)
def rise (t:TS) (k:Int):Bool:=aftB (prevL t.letters k.toNat) (t.letters.getD k.toNat 0)
section
variable {t:TS} {k:Int}
theorem tr_step (hv:t.values.length=t.letters.length) (hc:t.counts.length=t.letters.length) (h0:0≤k) (h:k<t.letters.length):trK t k=(inR (std.byte t.letters k) 97 122&&(rise t k&&(inR (std.get 0 t.values k) 0 20&&(inR (std.get 0 t.counts k) 1 20&&trK t (k+1))))):=by
 have h1:k.toNat<t.letters.length:=by omega
 unfold trK rise
 rw [tripB_step _ _ _ _ h1 (by omega) (by omega),show (k+1).toNat =k.toNat+1 from by omega,sd_byte,sd_get,sd_get]
 simp only [List.getD_eq_getElem?_getD,List.getElem?_eq_getElem h1,List.getElem?_eq_getElem (show k.toNat<t.values.length by omega),List.getElem?_eq_getElem (show k.toNat<t.counts.length by omega),Option.getD_some]
 congr 1
theorem rise_0 (h0:0≤k) (h:std.ltI 0 k=false):rise t k=true:=by
 have h1:=ge_of h
 have h2:k.toNat=0:=by omega
 unfold rise prevL
 rw [h2,if_pos rfl];rfl
theorem rise_e (h0:std.ltI 0 k=true) (h:k<t.letters.length):rise t k=!(std.leI (std.byte t.letters k) (std.byte t.letters (std.sub k 1))):=by
 have h1:=lt_of h0
 unfold rise prevL
 rw [if_neg (by omega)]
 simp only [sd_leI,sd_byte,sd_sub]
 rw [show (k-1).toNat =k.toNat-1 from by omega]
 rw [List.getD_eq_getElem?_getD (i:=k.toNat-1),List.getElem?_eq_getElem (show k.toNat-1<t.letters.length by omega)]
 show decide _=_
 rw [Bool.eq_iff_iff]
 simp
theorem tr_no (e:tsB t=(trK t k&&decide (t.blanks+t.counts.sum≤120))) {a r v n z:Bool} (st:trK t k=(a&&(r&&(v&&(n&&z))))) (h:(a&&(r&&(v&&n)))=false):tsB t=false:=by
 rw [e,st]
 revert h
 cases a<;>cases r<;>cases v<;>cases n<;>simp
end
theorem ts_n1 {t:TS} (h:inR t.letters.length 1 26=false):tsB t=false:=by rw [tsB_trip,h];rfl
theorem ts_n2 {t:TS} (h : ¬t.values.length=t.letters.length):tsB t=false:=by rw [tsB_trip,decide_eq_false h];simp
theorem ts_n3 {t:TS} (h : ¬t.counts.length=t.letters.length):tsB t=false:=by rw [tsB_trip,decide_eq_false h];simp
theorem ts_n4 {t:TS} (h:inR t.blanks 0 4=false):tsB t=false:=by rw [tsB_trip,h];simp
theorem ts_go {t:TS} (h:inR t.letters.length 1 26=true) (h2:t.values.length=t.letters.length) (h3:t.counts.length=t.letters.length) (h4:inR t.blanks 0 4=true):tsB t=(trK t 0&&decide (t.blanks+t.counts.sum≤120)):=by
 rw [tsB_trip,h,decide_eq_true h2,decide_eq_true h3,h4];rfl
theorem len_e {L:List Int} {s:List UInt8} (h:std.eqI (std.len L) (std.lenS s)=true):L.length=s.length:=by
 simp only [sd_eqI,sd_len,sd_lenS,beq_iff_eq] at h;omega
theorem len_n {L:List Int} {s:List UInt8} (h:std.eqI (std.len L) (std.lenS s)=false) : ¬L.length=s.length:=by
 simp only [sd_eqI,sd_len,sd_lenS,beq_eq_false_iff_ne,ne_eq] at h;omega
theorem in_bd {a b c:Int} (h:inR a b c=true):b≤a∧a≤c:=by simpa [inR] using h
structure TsL (t:TS):Prop where
 l:t.letters.length≤274877906944
 v:t.values.length≤274877906944
 c:t.counts.length≤274877906944
def sp_s_l02Ok (p:Pr):FSpec:=fsp (a1 (aP aTs)) (fun t=>TsL t) (fun t=>.b (tsB t))
theorem ok_s_l02Ok:FOk Tryz.prog 171 (sp_s_l02Ok std):=by
 refine FOk.go (c:=cx std [(89,sp_s_l00In std),(236,sp_s_l01Small std)] [] 0) (cx_ok (.cons ok_s_l00In (.cons ok_s_l01Small .nil)) .nil) mixed Tryz.func171 rfl rfl rfl (by kernel_rfl) ?_
 rintro t hp
 refine⟨rfl,?_⟩
 unfold sp_s_l00In sp_s_l01Small
 obtain⟨H,hH⟩ : ∃H:Hd (Int×Int),H=⟨fun (m,k)=>0≤k∧k≤t.letters.length∧m=t.blanks+(t.counts.take k.toNat).sum ∧0≤m∧m≤4+20*k∧tsB t=(trK t k&&decide (t.blanks+t.counts.sum≤120)),fun (m,k)=>(t.letters.length-k).toNat,(· < ·)⟩:=⟨_,rfl⟩
 have hl : ∀m n,H.lt m n→m<n:=by subst hH;exact fun _ _ h=>h
 generalize hP:std=p,hB0:tsB=B0,hB1:smallB=B1,hB2:inR=B2,hB3:u8=B3
 cbv
 repeat' first
  | (refine fun (_:Unit)=>?_;cbv)
  | (refine Or.inr ⟨44,[],[.s 4 (.i .i64),.s 5 (.i .i64)],[],[],H,rfl,hl,?_,fun ((m,k):Int×Int) hk=>?_⟩<;>cbv)
  | (refine aI2 (fun h=>?_) (fun h=>?_)<;>cbv)
  | (refine aI2 ?_ ?_)
 all_goals subst hP hB0 hB1 hB2 hB3 hH
 all_goals clear hl
 all_goals try dsimp only at hk
 all_goals try dsimp only
 all_goals try exact fin
 ·exact ts_n4 ‹_›
 ·have b4:=in_bd (show inR t.blanks 0 4=true by assumption)
  exact⟨Int.le_refl 0,Int.natCast_nonneg _,by simp,b4.1,b4.2,ts_go ‹_› (len_e ‹_›) (len_e ‹_›) ‹_›⟩
 all_goals try (have b1:=in_bd (show inR (t.letters.length:Int) 1 26=true by assumption))
 all_goals try (have b2:=len_e (L:=t.values) (s:=t.letters) ‹_›)
 all_goals try (have b3:=len_e (L:=t.counts) (s:=t.letters) ‹_›)
 all_goals try (obtain⟨q0,q1,q2,q3,q4,e⟩:=hk)
 all_goals try (have h1:k<t.letters.length:=lt_of ‹_›)
 all_goals try (have st:=tr_step b2 b3 q0 h1)
 all_goals try (have r0:=rise_0 (t:=t) q0 ‹_›)
 all_goals try (have r1:=rise_e (t:=t) (k:=k) ‹_› h1)
 all_goals try (have c1:=in_bd (show inR (std.get 0 t.counts k) 1 20=true by assumption))
 all_goals try (have c2:=sum_tk (L:=t.counts) q0 (by omega))
 ·exact in64 (by show _≤k-1∧k-1≤_;omega)
 ·exact tr_no e st (by rw [show inR (std.get 0 t.counts k) 1 20=false by assumption];simp)
 ·exact in64 (by show _≤m+std.get 0 t.counts k∧m+std.get 0 t.counts k≤_;omega)
 ·exact in64 (by show _≤k+1∧k+1≤_;omega)
 ·have g1:k+1≤(t.letters.length:Int):=by omega
  refine⟨by show 0≤k+1;omega,g1,by show m+std.get 0 t.counts k=t.blanks+(t.counts.take (k+1).toNat).sum;rw [c2];simp only [sd_get];omega,by show 0≤m+std.get 0 t.counts k;omega,by show m+std.get 0 t.counts k≤4+20*(k+1);omega,?_⟩
  rw [e,st,r1,show inR (std.byte t.letters k) 97 122=true by assumption,show std.leI (std.byte t.letters k) (std.byte t.letters (std.sub k 1))=false by assumption,show inR (std.get 0 t.values k) 0 20=true by assumption,show inR (std.get 0 t.counts k) 1 20=true by assumption]
  rfl
 ·exact tr_no e st (by rw [show inR (std.get 0 t.values k) 0 20=false by assumption];simp)
 ·exact tr_no e st (by rw [r1,show std.leI (std.byte t.letters k) (std.byte t.letters (std.sub k 1))=true by assumption];simp)
 ·exact tr_no e st (by rw [show inR (std.get 0 t.counts k) 1 20=false by assumption];simp)
 ·exact in64 (by show _≤m+std.get 0 t.counts k∧m+std.get 0 t.counts k≤_;omega)
 ·have g1:k+1≤(t.letters.length:Int):=by omega
  refine⟨by show 0≤k+1;omega,g1,by show m+std.get 0 t.counts k=t.blanks+(t.counts.take (k+1).toNat).sum;rw [c2];simp only [sd_get];omega,by show 0≤m+std.get 0 t.counts k;omega,by show m+std.get 0 t.counts k≤4+20*(k+1);omega,?_⟩
  rw [e,st,r0,show inR (std.byte t.letters k) 97 122=true by assumption,show inR (std.get 0 t.values k) 0 20=true by assumption,show inR (std.get 0 t.counts k) 1 20=true by assumption]
  rfl
 ·exact tr_no e st (by rw [show inR (std.get 0 t.values k) 0 20=false by assumption];simp)
 ·exact tr_no e st (by rw [show inR (std.byte t.letters k) 97 122=false by assumption];simp)
 ·have h2:(t.letters.length:Int)≤k:=ge_of ‹_›
  rw [e,q2,tk_all (by omega)]
  unfold trK
  rw [dn h2]
  rfl
 ·exact ts_n3 (len_n ‹_›)
 ·exact ts_n2 (len_n ‹_›)
 ·exact ts_n1 ‹_›
end Ax
namespace Ax
set_option maxRecDepth 100000
set_option maxHeartbeats 2000000
def suB (u:Su):Bool:=tsB u.ts&&(lexB u.lex&&(bdB u.bd&&((lettersS u.bd).isEmpty &&(inR u.secs 0 36000&&inR u.rule 0 3))))
structure SuL (u:Su):Prop where
 ts:TsL u.ts
 ws:WsP u.lex
 bd:BdP u.bd
def sp_s_l18Setup (p:Pr):FSpec:=fsp (a1 (aP aSu)) (fun u=>SuL u) (fun u=>.b (suB u))
theorem ok_s_l18Setup:FOk Tryz.prog 72 (sp_s_l18Setup std):=by
 refine FOk.go (c:=cx std [(171,sp_s_l02Ok std),(172,sp_s_l05Ok std),(159,sp_s_l11Ok std),(173,sp_s_l11Letters std),(89,sp_s_l00In std)] [] 0) (cx_ok (.cons ok_s_l02Ok (.cons ok_s_l05Ok (.cons ok_s_l11Ok (.cons ok_s_l11Letters (.cons ok_s_l00In .nil))))) .nil) mixed Tryz.func72 rfl rfl rfl (by kernel_rfl) ?_
 rintro u hp
 refine⟨rfl,?_⟩
 unfold sp_s_l02Ok sp_s_l05Ok sp_s_l11Ok sp_s_l11Letters sp_s_l00In
 generalize hP:std=p,hB0:suB=B0,hB1:tsB=B1,hB2:lexB=B2,hB3:bdB=B3,hB4:lettersS=B4,hB5:inR=B5
 cbv
 repeat' first
  | (refine fun (_:Unit)=>?_;cbv)
  | (refine aI2 (fun h=>?_) (fun h=>?_)<;>cbv)
  | (refine aI2 ?_ ?_)
  | (refine Or.inl (fun (_:Unit)=>?_);cbv)
 all_goals subst hP hB0 hB1 hB2 hB3 hB4 hB5
 all_goals try exact fin
 ·exact hp.bd
 ·exact hp.bd
 all_goals (unfold suB;simp [*] at *;try simp [*])
structure PkP (g:Gm):Prop where
 ts:TsOk g.ts
 rk2:g.racks.length=2
 ply:g.player=0∨g.player=1
 rk : ∀k,(g.rk k).length ≤7
 bf:BdP g.bef
 wd:g.last.play.word.length≤274877906944
 dr:g.last.drawn.length≤274877906944
def frN (g:Gm):Int:=std.len (frI (flatB g.bef g.last.play) (flatP g.last.play))
def bdE (a b:Bd):Bool:=std.and (std.eqI a.size b.size) (std.and (std.eqS a.prem b.prem) (std.eqS a.cells b.cells))
theorem pk_eq (g:Gm):playOk g=(std.eqI g.last.player (std.sub 1 g.player)&&(okB g.bef g.last.play&&(inR g.last.zeros 0 5&&(std.eqI g.zeros 0&&(bagB g.last.drawn&&(takeB (std.get [] g.racks g.last.player) (isort g.last.drawn)&&(std.leI (frN g) 7&&(std.leI (std.lenS g.last.drawn) (frN g)&&(std.leI (std.add (std.sub (std.lenS (std.get [] g.racks g.last.player)) (std.lenS g.last.drawn)) (frN g)) 7&&(bdE (madeS g.bef g.last.play) g.bd&&(std.eqI g.last.score (scoreV g.ts g.bef g.last.play)&&std.leI g.last.score 20000))))))))))):=by
 unfold playOk frN
 rw [sd_len,fr_n]
 congr 6
 congr 1
 ·rw [sd_leI,Bool.eq_iff_iff,decide_eq_true_eq,decide_eq_true_eq];omega
 congr 1
 rw [sd_leI,sd_lenS,Bool.eq_iff_iff,decide_eq_true_eq,decide_eq_true_eq];omega
structure PlayF (g:Gm):Prop where
 ply:std.inL g.last.player (std.len g.racks)
 pl:PlP g.bef g.last.play
 fr:(frI (flatB g.bef g.last.play) (flatP g.last.play)).length ≤15
 dr:g.last.drawn.length≤120
 rk:(g.rk g.last.player).length ≤7
 so:(isort g.last.drawn).length ≤120
theorem pk_ply {g:Gm} (hp:PkP g) (h1:std.eqI g.last.player (std.sub 1 g.player)=true):std.inL g.last.player (std.len g.racks):=by
 have h2:=hp.rk2
 have h3:g.last.player=1-g.player:=by simpa using h1
 refine⟨?_,?_⟩
 ·rcases hp.ply with h | h<;>omega
 ·show g.last.player<(g.racks.length:Int)
  rcases hp.ply with h | h<;>omega
theorem bag_len {s:List UInt8} (h:bagB s=true):s.length≤120:=by
 unfold bagB at h
 simp only [Bool.and_eq_true,decide_eq_true_eq] at h
 exact h.2
theorem pk_f {g:Gm} (hp:PkP g) (h1:std.eqI g.last.player (std.sub 1 g.player)=true) (h2:okB g.bef g.last.play=true) (h3:bagB g.last.drawn=true):PlayF g:=by
 have h4:=okB_on h2
 have h5:=frI_len (flatB g.bef g.last.play) (flatP g.last.play)
 have h6:=h4.on.len
 exact⟨pk_ply hp h1,h4,by omega,bag_len h3,hp.rk _,by rw [isort_length];exact bag_len h3⟩
def sp_s_l18PlayOk (p:Pr):FSpec:=fsp (a1 (aP aGm)) (fun g=>PkP g) (fun g=>.b (playOk g))
theorem ok_s_l18PlayOk:FOk Tryz.prog 250 (sp_s_l18PlayOk std):=by
 refine FOk.go (c:=cx std [(224,sp_s_l18Board std),(212,sp_s_l12Ok std),(89,sp_s_l00In std),(73,sp_s_l17Ok std),(125,sp_s_l12Flat std),(217,sp_s_l12Fresh std),(126,sp_s_l03Take std),(74,sp_s_l03Sort std),(130,sp_s_l12Make std),(123,sp_s_l13Score std)] [] 0) (cx_ok (.cons ok_s_l18Board (.cons ok_s_l12Ok (.cons ok_s_l00In (.cons ok_s_l17Ok (.cons ok_s_l12Flat (.cons ok_s_l12Fresh (.cons ok_s_l03Take (.cons ok_s_l03Sort (.cons ok_s_l12Make (.cons ok_s_l13Score .nil)))))))))) .nil) mixed Tryz.func250 rfl rfl rfl (by kernel_rfl) ?_
 rintro g hp
 refine⟨rfl,?_⟩
 unfold sp_s_l18Board sp_s_l12Ok sp_s_l00In sp_s_l17Ok sp_s_l12Flat sp_s_l12Fresh sp_s_l03Take sp_s_l03Sort sp_s_l12Make sp_s_l13Score
 generalize hP:std=p,hB0:playOk=B0,hB1:okB=B1,hB2:flatB=B2,hB3:flatP=B3,hB4:frI=B4,hB5:takeB=B5,hB6:takeS=B6,hB7:isort=B7,hB8:bagB=B8,hB9:madeS=B9,hB10:scoreV=B10,hB11:inR=B11
 cbv
 repeat' first
  | (refine fun (_:Unit)=>?_;cbv)
  | (refine aI2 (fun h=>?_) (fun h=>?_)<;>cbv)
  | (refine aI2 ?_ ?_)
  | (refine Or.inl (fun (_:Unit)=>?_);cbv)
 all_goals subst hP hB0 hB1 hB2 hB3 hB4 hB5 hB6 hB7 hB8 hB9 hB10 hB11
 all_goals try exact fin
 ·exact in64 (by show _≤1-g.player∧1-g.player≤_;rcases hp.ply with h | h<;>omega)
 ·exact⟨hp.bf,hp.wd⟩
 ·exact ltM_of hp.dr
 ·rw [pk_eq,show bagB g.last.drawn=false by assumption];simp
 all_goals try (have F:=pk_f hp ‹_› ‹_› ‹_›)
 ·exact F.pl.fit
 ·exact F.pl.on
 ·exact F.ply
 ·exact ltM_of hp.dr
 ·exact ltM_of (n:=(g.rk g.last.player).length) (Nat.le_trans F.rk (by decide))
 ·exact ltM_of (Nat.le_trans F.so (by decide))
 ·exact F.ply
 ·have a1:=F.rk
  have a2:=F.dr
  exact in64 (by show _≤((g.rk g.last.player).length : Int)-g.last.drawn.length∧((g.rk g.last.player).length : Int)-g.last.drawn.length≤_;omega)
 ·have a1:=F.rk
  have a2:=F.dr
  have a3:=F.fr
  exact in64 (by show _≤((g.rk g.last.player).length : Int)-g.last.drawn.length+(frI (flatB g.bef g.last.play) (flatP g.last.play)).length ∧((g.rk g.last.player).length : Int)-g.last.drawn.length+(frI (flatB g.bef g.last.play) (flatP g.last.play)).length ≤_;omega)
 ·exact F.pl
 ·exact⟨hp.ts,F.pl⟩
 all_goals (clear hp;try clear F)
 all_goals (rw [pk_eq];unfold frN bdE;try simp only [Bool.not_true,Bool.not_false] at *)
 all_goals first
  | (rw [show std.eqI g.last.player (std.sub 1 g.player)=false by assumption];rfl)
  | rw [show std.eqI g.last.player (std.sub 1 g.player)=true by assumption,Bool.true_and]
 all_goals first
  | (rw [show okB g.bef g.last.play=false by assumption];rfl)
  | rw [show okB g.bef g.last.play=true by assumption,Bool.true_and]
 all_goals first
  | (rw [show inR g.last.zeros 0 5=false by assumption];rfl)
  | rw [show inR g.last.zeros 0 5=true by assumption,Bool.true_and]
 all_goals try (show std.leI g.last.score 20000=_)
 all_goals (try unfold Gm.bef;try simp only [eta_bd,eta_pl] at *;generalize (⟨g.bd.size,g.bd.prem,g.last.before⟩:Bd)=bf at *)
 all_goals
  (generalize std.eqI g.zeros 0=b1 at *
   generalize bagB g.last.drawn=b2 at *
   generalize takeB (std.get [] g.racks g.last.player) (isort g.last.drawn)=b3 at *
   generalize std.leI (std.len (frI (flatB bf g.last.play) (flatP g.last.play))) 7=b4 at *
   generalize std.leI (std.lenS g.last.drawn) (std.len (frI (flatB bf g.last.play) (flatP g.last.play)))=b5 at *
   generalize std.leI (std.add (std.sub (std.lenS (std.get [] g.racks g.last.player)) (std.lenS g.last.drawn)) (std.len (frI (flatB bf g.last.play) (flatP g.last.play)))) 7=b6 at *
   generalize std.and (std.eqI (madeS bf g.last.play).size g.bd.size) (std.and (std.eqS (madeS bf g.last.play).prem g.bd.prem) (std.eqS (madeS bf g.last.play).cells g.bd.cells))=b7 at *
   generalize std.eqI g.last.score (scoreV g.ts bf g.last.play)=b8 at *
   generalize std.leI g.last.score 20000=b9 at *)
 all_goals (simp_all)
end Ax
end Go.Proofs.YtjjonmhpgkahoaaGreatDoor
namespace Go.Proofs.YtjjonmhpgkahoaaGreatDoor
open Go.RowKit
set_option maxRecDepth 100000
def asciiB (s:Str):Bool:=s.all fun c=>decide (c.toNat<128)
theorem small_low (c:UInt8):smallB (lowC c)=(smallB c||capB c):=by
 unfold lowC
 cases hc:capB c
 ·simp
 ·unfold capB at hc
  simp only [Bool.and_eq_true,decide_eq_true_eq] at hc
  simp only [if_true,Bool.or_true]
  unfold smallB
  have h1:(c+32).toNat =c.toNat+32:=by
   rw [UInt8.toNat_add]
   have : (32:UInt8).toNat =32:=rfl
   omega
  simp only [Bool.and_eq_true,decide_eq_true_eq]
  omega
theorem word_low (s:Str):isWordB (lowS s)=placedB s:=by
 unfold isWordB placedB lowS
 rw [List.length_map,List.all_map]
 have : (s.all (smallB ∘ lowC))=s.all (fun c=>smallB c||capB c):=by
  congr 1;funext c;exact small_low c
 rw [this]
theorem toLowerA_low (l:Str):Lib.toLowerA l=lowS l:=by
 unfold Lib.toLowerA lowS
 refine List.map_congr_left fun c _=>?_
 have h:Lib.isUpperB c=capB c:=by
  unfold Lib.isUpperB capB
  rw [Bool.eq_iff_iff]
  simp [UInt8.le_iff_toNat_le]
  omega
 unfold Lib.lowerB lowC
 rw [h]
theorem lettB_ascii {s:Str} (h:lettB s=true):asciiB s=true:=by
 refine List.all_eq_true.2 fun c hc=>?_
 have:=List.all_eq_true.1 h c hc
 unfold smallB capB at this
 simp only [Bool.or_eq_true,Bool.and_eq_true,decide_eq_true_eq] at this ⊢
 omega
theorem enc_small {x:Int} (h:(Lib.encodeRune x).all smallB=true):(Lib.encodeRune x).length =1:=by
 unfold Lib.encodeRune Lib.encodeRuneZ at h ⊢
 have big : ∀z:Int,192≤z→z≤255→smallB z.toNat.toUInt8=false:=fun z h0 h1=>by
  have e:z.toNat.toUInt8.toNat=z.toNat:=by
   rw [Nat.toUInt8_eq,UInt8.toNat_ofNat']
   omega
  unfold smallB
  rw [e,Bool.and_eq_false_iff]
  right
  simp only [decide_eq_false_iff_not]
  omega
 split at h
 ·rename_i h0;rw [if_pos h0];rfl
 ·rename_i h0
  split at h
  ·rename_i h1
   rw [List.map_cons,List.all_cons,big _ (by omega) (by omega)] at h
   cases h
  ·rename_i h1
   split at h
   ·rename_i h2
    rw [List.map_cons,List.all_cons,big _ (by omega) (by omega)] at h
    cases h
   ·rename_i h2
    split at h
    ·rename_i h3
     rw [List.map_cons,List.all_cons,big _ (by omega) (by omega)] at h
     cases h
    ·rw [List.map_cons,List.all_cons,big _ (by omega) (by omega)] at h
     cases h
theorem dec_high {b:UInt8} {t:Str} (h:128≤b.toNat):2≤(Lib.decodeL (b::t)).2∨(Lib.decodeL (b::t)).1=65533:=by
 unfold Lib.decodeL Utf8.decode
 have h0 : ¬((ByteArray.mk (b::t).toArray).get! (0+0)).toNat < 128:=by
  show ¬b.toNat<128
  omega
 simp only [if_neg h0]
 split
 ·split
  ·left;exact Nat.le_refl _
  ·right;rfl
 ·split
  ·split
   ·left;exact Nat.le_succ _
   ·right;rfl
  ·split
   ·split
    ·left;show 2≤4;omega
    ·right;rfl
   ·right;rfl
theorem dec_le (b:UInt8) (t:Str):(Lib.decodeL (b::t)).2≤(b::t).length :=by
 have hz:(ByteArray.mk (b::t).toArray).size =(b::t).length :=by simp [ByteArray.size]
 have h1:1≤(b::t).length :=by simp
 unfold Lib.decodeL Utf8.decode
 simp only
 split
 ·exact h1
 ·split
  ·rename_i h
   simp only [Bool.and_eq_true,decide_eq_true_eq] at h
   split
   ·show 2≤_;omega
   ·exact h1
  ·split
   ·rename_i h
    simp only [Bool.and_eq_true,decide_eq_true_eq] at h
    split
    ·show 3≤_;omega
    ·exact h1
   ·split
    ·rename_i h
     simp only [Bool.and_eq_true,decide_eq_true_eq] at h
     split
     ·show 4≤_;omega
     ·exact h1
    ·exact h1
theorem low_bad:Lib.toLowerU 65533=65533:=by decide +kernel
theorem low_len : ∀(n:Nat) (l:Str),l.length≤n→(Lib.toLowerD l).all smallB=true→(Lib.toLowerD l).length ≤l.length∧((Lib.toLowerD l).length =l.length→asciiB l=true)
 | _,[],_,_=>⟨Nat.le_refl _,fun _=>rfl⟩
 | 0,_::_,hn,_=>by simp at hn
 | n+1,b::t,hn,h=>by
   have hw:=Lib.decodeL_width (b::t)
   have hw2:=dec_le b t
   have hs:=Lib.mapD_step Lib.toLowerU (b::t) (by simp)
   have hrec:=fun k (hk:1≤k)=>low_len n ((b::t).drop k) (by rw [List.length_drop,List.length_cons];rw [List.length_cons] at hn;omega)
   unfold Lib.toLowerD at h hrec ⊢
   rw [hs,List.all_append,Bool.and_eq_true] at h
   rw [hs,List.length_append]
   obtain⟨h1,h2⟩:=h
   obtain⟨r1,r2⟩:=hrec _ hw h2
   have e1:(if 0≤Lib.toLowerU ((Lib.decodeL (b::t)).1:Int) then Lib.encodeRune (Lib.toLowerU ((Lib.decodeL (b::t)).1:Int)) else []).length ≤1:=by
    split
    ·rename_i h0
     rw [if_pos h0] at h1
     exact Nat.le_of_eq (enc_small h1)
    ·exact Nat.zero_le _
   rw [List.length_drop] at r1 r2
   refine⟨by rw [List.length_cons] at r1 hw2 ⊢;omega,fun e=>?_⟩
   have hd1:(Lib.decodeL (b::t)).2=1:=by rw [List.length_cons] at r1 e hw2;omega
   have ha:=r2 (by rw [List.length_cons] at r1 e ⊢;omega)
   rw [hd1,List.drop_succ_cons,List.drop_zero] at ha
   have hb:b.toNat<128:=by
    refine Classical.byContradiction fun hb=>?_
    rcases dec_high (t:=t) (show 128≤b.toNat by omega) with h3 | h3
    ·omega
    ·rw [h3] at h1
     have e3:Lib.toLowerU ((65533:Nat):Int)=65533:=low_bad
     rw [e3,if_pos (by decide)] at h1
     exact absurd h1 (by decide)
   unfold asciiB at ha ⊢
   rw [List.all_cons,ha,decide_eq_true hb]
   rfl
theorem placed_low (s:Str):(isWordB (Lib.toLowerD s)&&decide (s.length=(Lib.toLowerD s).length))=placedB s:=by
 by_cases ha:asciiB s=true
 ·have e:Lib.toLowerD s=lowS s:=by
   rw [Lib.toLowerD_ascii _ (fun b hb=>by simpa using List.all_eq_true.1 ha b hb)]
   exact toLowerA_low s
  rw [e,word_low]
  have : (lowS s).length =s.length:=by simp [lowS]
  rw [this,decide_eq_true rfl,Bool.and_true]
 ·have h1:(isWordB (Lib.toLowerD s)&&decide (s.length=(Lib.toLowerD s).length))=false:=by
   rw [Bool.eq_false_iff]
   intro h
   rw [Bool.and_eq_true,decide_eq_true_eq] at h
   have h2:=h.1
   unfold isWordB at h2
   rw [Bool.and_eq_true] at h2
   exact ha ((low_len _ s (Nat.le_refl _) h2.1).2 h.2.symm)
  have h2:placedB s=false:=by
   rw [Bool.eq_false_iff]
   intro h
   unfold placedB at h
   rw [Bool.and_eq_true] at h
   exact ha (lettB_ascii h.1)
  rw [h1,h2]
theorem enc_len (x:Int):(Lib.encodeRune x).length ≤4:=by
 unfold Lib.encodeRune Lib.encodeRuneZ
 rw [List.length_map]
 split
 ·simp
 ·split
  ·simp
  ·split
   ·simp
   ·split<;>simp
theorem low_4 : ∀(n:Nat) (l:Str),l.length≤n→(Lib.toLowerD l).length ≤4*l.length
 | _,[],_=>Nat.le_refl _
 | 0,_::_,hn=>by simp at hn
 | n+1,b::t,hn=>by
   have hw:=Lib.decodeL_width (b::t)
   have hs:=Lib.mapD_step Lib.toLowerU (b::t) (by simp)
   have hrec:=low_4 n ((b::t).drop (Lib.decodeL (b::t)).2) (by rw [List.length_drop,List.length_cons];rw [List.length_cons] at hn;omega)
   unfold Lib.toLowerD at hrec ⊢
   rw [hs,List.length_append]
   rw [List.length_drop] at hrec
   have e1:(if 0≤Lib.toLowerU ((Lib.decodeL (b::t)).1:Int) then Lib.encodeRune (Lib.toLowerU ((Lib.decodeL (b::t)).1:Int)) else []).length ≤4:=by
    split
    ·exact enc_len _
    ·exact Nat.zero_le _
   rw [List.length_cons] at hrec ⊢
   omega
def incB:List Str→Bool
 | []=>true
 | [_]=>true
 | a::b::r=>sLt a b&&incB (b::r)
theorem replace_dots : ∀s:Str,Lib.replaceK [46] [] (Lib.count s [46]) s=s.filter fun c=>!(c==46)
 | []=>rfl
 | c::l=>by
   have ih:=replace_dots l
   by_cases hc:c=46
   ·subst hc
    rw [Lib.count_cons_eq,Nat.add_comm,Lib.replaceK_hit [46] [] _ _ 0 (by rfl)]
    simpa using ih
   ·have hf:(c::l).filter (fun c=>!(c==46))=c::l.filter (fun c=>!(c==46)):=List.filter_cons_of_pos (by simpa using hc)
    rw [Lib.count_cons_ne c 46 l hc,hf]
    cases hk:Lib.count l [46] with
    | zero=>
      rw [hk] at ih
      show c::l=_
      rw [←ih];rfl
    | succ k=>
      rw [hk] at ih
      obtain⟨i,hi⟩:=Lib.index_of_count (s:=l) (old:=[46]) (by omega)
      rw [Lib.replaceK_hit [46] [] k l i hi] at ih
      have hi2:Lib.index (c::l) [46]=((i+1:Nat):Int):=by
       rw [Lib.index]
       have hp:([46]:Str).isPrefixOf (c::l)=false:=by
        simp [List.isPrefixOf]
        exact fun h=>hc h.symm
       rw [hp,hi]
       have : ((i:Int)== -1)=false:=by rw [beq_eq_false_iff_ne];omega
       rw [this];simp
      rw [Lib.replaceK_hit [46] [] k (c::l) (i+1) hi2,←ih]
      simp
theorem replaceAll_dots (s:Str):Lib.replaceAll s [46] []=s.filter fun c=>!(c==46):=by
 unfold Lib.replaceAll Lib.replace
 rw [if_neg (by decide)]
 have : Lib.replaceNum s [46] (-1)=Lib.count s [46]:=by unfold Lib.replaceNum;rw [if_pos (.inl (by decide))]
 rw [this,replace_dots]
theorem indexByte_find : ∀(s:Str) (c:UInt8),Lib.indexByte s c=if findK s c<s.length then (findK s c:Int) else -1
 | [],_=>by simp [Lib.indexByte,findK]
 | b::l,c=>by
   have ih:=indexByte_find l c
   simp only [Lib.indexByte,findK,List.length_cons]
   by_cases h:(b==c)=true
   ·simp [h]
   ·simp only [if_neg h,ih]
    by_cases h2:findK l c<l.length
    ·have : ((findK l c:Int)== -1)=false:=by simp
     rw [if_pos h2,if_pos (show findK l c+1<l.length+1 by omega),this]
     simp
    ·rw [if_neg h2,if_neg (show ¬findK l c+1<l.length+1 by omega)]
     rfl
end Go.Proofs.YtjjonmhpgkahoaaGreatDoor
namespace Go.Proofs.YtjjonmhpgkahoaaGreatDoor
open Go.RowKit RegP
structure SlT (P:Program) (T E:TypeId) (z:Value) (size bytes:Nat):Prop where
 ht:P.underlying T=some (.slice E)
 hi:(P.info? E).map (fun i=>(i.zero,i.size,i.bytes))=some (some z,size,bytes)
 hz:z.cells.size=size
 pos:0<size
section
variable {P:Program} {w w0 w1 w':World} {base e size n:Nat} {v z:Value} {xs:List Value} {T bytes:Nat}
theorem wpList_app {ops:Array Oper} {rest:List Oper} {o:Oper} {a:Act} {Q:Exit→Act→World→Prop} (hT:SlT P T e z size bytes) (hgd:o.guard=none) (s x:Operand)
 (ho:o.op=.call { callee:=.builtin .append,args:=#[s,x],argTypes:=#[T,T] })
 (v:Value) (n:Nat) (xs:List Value) (hs:a.eval s=v) (base:Nat) (hown:w0.ownsRow base e size v n xs) (us:List Value) (hu:us.length=size) (h1 : ∀u∈us,u.oneCell'=true)
 (hx:a.eval x=.slice (some ⟨w0.heap.size,0,none⟩) 1 1) (hn:n+1≤1099511627776) (hby:bytes≤128) (hbase:base≤w0.heap.size)
 (h : ∀v' w',w'.ownsRow base e size v' (n+1) (xs++us)→w0.grownBy w' v.ownBlock→(v'.ownBlock=v.ownBlock∨v'.ownBlock=some (w0.heap.size+1))→wpList P ops Q rest (a.put o.dst v') w') :
 wpList P ops Q (o::rest) a (w0.alloc (.cells us.toArray e)):=by
 cases hq:P.info? e with
 | none=>have:=hT.hi;rw [hq] at this;cases this
 | some i=>
   have hii:=hT.hi
   rw [hq] at hii
   simp only [Option.map_some,Option.some.injEq,Prod.mk.injEq] at hii
   obtain⟨hz,hsz,hbt⟩:=hii
   refine wpList_append_own_at (w0.alloc (.cells us.toArray e)) hgd s x T ho base e i z size bytes hT.ht hq hz hsz hbt hT.hz hT.pos v n xs hs (hown.alloc _) ⟨w0.heap.size,0,none⟩ 1 1 us hx (by omega) ?_ h1 ?_ ?_ ?_ ?_
   ·intro j u hj
    have hadd:(⟨w0.heap.size,0,none⟩:Addr).add j=⟨w0.heap.size,j,none⟩:=by unfold Addr.add;split<;>simp_all
    rw [hadd,cell_of_row _ _ j us.toArray e (0,0) (heap_alloc_new w0 _)]
    simpa using hj
   ·unfold maxLen;omega
   ·have : (n+1)*bytes≤1099511627776*128:=Nat.mul_le_mul hn hby
    omega
   ·simp;omega
   ·intro v' w' k1 k2 _ k3
    refine h v' w' k1 ⟨k2.os,k2.tape,k2.output,?_,?_⟩ ?_
    ·have:=k2.size;simp at this;omega
    ·intro k hk hne
     rw [k2.block k (by simp;omega) hne,Below.heap_alloc w0 _ k hk]
    ·rcases k3 with k3 | k3
     ·exact .inl k3
     ·exact .inr (by simpa using k3)
theorem wpList_apps {ops:Array Oper} {rest:List Oper} {o:Oper} {a:Act} {Q:Exit→Act→World→Prop} (hT:SlT P T e z size bytes) (hgd:o.guard=none) (s x:Operand)
 (ho:o.op=.call { callee:=.builtin .append,args:=#[s,x],argTypes:=#[T,T] })
 (v:Value) (n:Nat) (xs:List Value) (hs:a.eval s=v) (base:Nat) (hown:w.ownsRow base e size v n xs) (B:Nat) (A:Option Addr) (m c:Nat) (us:List Value) (hx:a.eval x=.slice A m c) (hr:Reads w B size A m us)
 (h1 : ∀u∈us,u.oneCell'=true) (hn:n+m≤1099511627776) (hby:bytes≤128) (hbase:base≤w.heap.size)
 (h : ∀v' w',w'.ownsRow base e size v' (n+m) (xs++us)→w.grownBy w' v.ownBlock→(v'.ownBlock=v.ownBlock∨v'.ownBlock=some w.heap.size)→wpList P ops Q rest (a.put o.dst v') w') :
 wpList P ops Q (o::rest) a w:=by
 cases hq:P.info? e with
 | none=>have:=hT.hi;rw [hq] at this;cases this
 | some i=>
   have hii:=hT.hi
   rw [hq] at hii
   simp only [Option.map_some,Option.some.injEq,Prod.mk.injEq] at hii
   obtain⟨hz,hsz,hbt⟩:=hii
   have hmul:(n+m)*bytes≤140737488355328:=by
    have : (n+m)*bytes≤1099511627776*128:=Nat.mul_le_mul hn hby
    omega
   have hml:n+m≤maxLen:=by unfold maxLen;omega
   rcases A with _ | ad
   ·have hm:m=0:=by
     rcases Nat.eq_zero_or_pos m with h0 | h0
     ·exact h0
     ·obtain⟨ad,h,_⟩:=hr.2 h0
      cases h
    subst hm
    have hn':us=[]:=List.eq_nil_of_length_eq_zero (by simpa using hr.1)
    subst hn'
    have hrun:(Builtin.append_ #[T,T] o.type #[v,.slice none 0 c]).run P w=.ok v w:=by
     rcases hown.2 with ⟨rfl,rfl⟩ | ⟨g,cap,cur,rfl,_,_,hnc,_⟩
     ·simp [Builtin.append_,run_underlying hT.ht,sizeOf,typeInfo,hq,Builtin.lenOf,Builtin.firstCells]
     ·simp [Builtin.append_,run_underlying hT.ht,sizeOf,typeInfo,hq,Builtin.lenOf,Builtin.firstCells,hnc,storeCells]
    refine wpList_plain hgd fun K hK=>?_
    unfold Oper.wp execOp
    simp only [ho,resolve,invoke,builtin,Sem.run_bind,Sem.run_pure,Result.andThen_ok,List.map_toArray,List.map_cons,List.map_nil,hs,hx,hrun]
    exact hK _ _ (h v w (by simpa using hown) (World.grownBy.refl w _) (.inl rfl))
   ·have hcells : ∀j u,us[j]? =some u→w.cell? (ad.add j)=some u:=by
     intro j u hu
     rcases Nat.eq_zero_or_pos m with h0 | h0
     ·subst h0
      have hn':us=[]:=List.eq_nil_of_length_eq_zero (by simpa using hr.1)
      subst hn'
      simp at hu
     ·obtain⟨ad',h,_,hc⟩:=hr.2 h0
      injection h with h
      subst h
      exact hc j u hu
    exact wpList_append_own_at w hgd s x T ho base e i z size bytes hT.ht hq hz hsz hbt hT.hz hT.pos v n xs hs hown ad m c us hx hr.1 hcells h1 hml hmul hbase (fun v' w' k1 k2 _ k3=>h v' w' k1 k2 k3)
theorem Below.own {B:Nat} {a:World} (hb:Below B a w) (hle:B≤w.heap.size) (hown:w.ownsRow base e size v n xs) (hB:B≤base) (hg:w.grownBy w' v.ownBlock):Below B a w':=
 hb.grown hg hle (fun k hk=>Nat.le_trans hB (hown.lt k hk).1)
end
theorem own_cast {w:World} {base e size n n':Nat} {v:Value} {xs xs':List Value} (h:w.ownsRow base e size v n xs) (hx:xs=xs') (hn:n=n'):w.ownsRow base e size v n' xs':=by rw [←hn,←hx];exact h
theorem own_sl {w:World} {base e size n:Nat} {v:Value} {xs:List Value} (h:w.ownsRow base e size v n xs) : ∃A c,v=.slice A n c∧n≤c∧Reads w w.heap.size size A n xs:=by
 rcases h.2 with ⟨rfl,rfl⟩ | ⟨g,cap,cur,rfl,_,_,hc,_⟩
 ·exact⟨none,0,rfl,Nat.le_refl _,Reads.of_own h⟩
 ·exact⟨_,cap,rfl,hc,Reads.of_own h⟩
section
variable {w w':World} {base g:Nat} {e:TypeId} {xs:List Value}
end
end Go.Proofs.YtjjonmhpgkahoaaGreatDoor
namespace Go.Proofs.YtjjonmhpgkahoaaGreatDoor
namespace Ax
open Go.RowKit
set_option maxRecDepth 100000
section
variable {P:Program} {f:FuncId} {fn:Func} {α:Type}
theorem FOk.of_calls {A:Args α} {pre:α→Prop} {v:α→PV} (hf:P.funcs[f]? =some fn) (hn:(fn.name=="runtime.NumGoroutine")=false) (hb:fn.body.isNone=false)
 (h : ∀a,pre a→∀(w:World) (e:Env) (vals:Array Value),FzW w e.fz→Rs w e (A.enc a) vals.toList→Calls P f vals w fun en w'=>∃u,en=.returned u∧(∀w e,R w e (v a) u)∧Below w.heap.size w w'):FOk P f (fsp A pre v):=by
 refine⟨⟨fn,hf,hn,hb⟩,fun args out hs hp w e vals hz hl=>?_⟩
 unfold fsp at hs
 split at hs
 ·rename_i a ha
  cases hs
  rw [A.ok _ _ ha] at hl
  refine (h a (hp _ (by simp)) w e vals hz hl).mono ?_
  rintro en w' ⟨u,rfl,hu,hb⟩
  exact⟨u,{ e with on:=fun _=>False,lv:=fun _=>False },rfl,hu _ _,.refl _,.of fun _ h=>h,fun k o hk=>by simp [AH.get] at hk,fun k hk=>.inl hk,fun k hk=>.inl hk,fun k hk=>.inl hk,fun k _ _ h1 h2=>absurd h1 h2,.of_below hb⟩
 ·cases hs
theorem FOk.of_row {A:Args α} {pre:α→Prop} {k:AtTy} {L:α→List k.Ty} {te:TypeId} (hk:k.flat=true) (hf:P.funcs[f]? =some fn) (hn:(fn.name=="runtime.NumGoroutine")=false) (hb:fn.body.isNone=false)
 (h : ∀a,pre a→∀(w:World) (e:Env) (vals:Array Value),FzW w e.fz→Rs w e (A.enc a) vals.toList→Calls P f vals w fun en w'=>∃u,en=.returned u∧w'.ownsRow w.heap.size te 1 u (L a).length ((L a).map k.val)∧Below w.heap.size w w') :
 FOk P f (fsp A pre (fun _=>.osl 0) fun a=>[(0,.own [k] (L a) te)]):=by
 refine⟨⟨fn,hf,hn,hb⟩,fun args out hs hp w e vals hz hl=>?_⟩
 unfold fsp at hs
 split at hs
 ·rename_i a ha
  cases hs
  rw [A.ok _ _ ha] at hl
  refine (h a (hp _ (by simp)) w e vals hz hl).mono ?_
  rintro en w' ⟨u,rfl,hu,hb⟩
  obtain⟨X,C,hu2,hX⟩ : ∃X C,u=.slice X (L a).length C∧((X=none∧L a=[]∧C=0)∨∃g cur,X=some ⟨g,0,none⟩∧w.heap.size≤g∧w'.heap[g]? =some (.cells cur te (0,0))∧cur.size=C∧((L a).length ≤C∧C≤maxLen)∧cur.toList.take (L a).length =(L a).map k.val):=by
   rcases hu.2 with ⟨rfl,h0⟩ | ⟨g,cap,cur,rfl,h1,h2,h3,h4,h5,h6⟩
   ·have : L a=[]:=List.eq_nil_of_length_eq_zero h0
    exact⟨none,0,by rw [this];rfl,.inl ⟨rfl,this,rfl⟩⟩
   ·exact⟨_,_,rfl,.inr ⟨g,cur,rfl,h1,h2,by simpa using h5,⟨h3,h4⟩,by simpa using h6⟩⟩
  have hget : ∀j o',AH.get [(0,Ob.own [k] (L a) te)] j=some o'→j=0∧o'=.own [k] (L a) te:=fun j o' hj=>by
   unfold AH.get at hj
   split at hj
   ·rename_i hkk;exact⟨(by simpa using hkk:0=j).symm,by cases hj;rfl⟩
   ·cases hj
  have hzl : ∀b,e.fz b→b<w.heap.size:=hz.lt
  refine⟨u,⟨fun _=>X,fun _=>C,fun _=>(L a).length,e.fz,fun j=>j=0,fun j=>j=0⟩,rfl,?_,⟨fun j h=>h.elim,fun j h=>h.elim,fun j h=>h.elim,fun j h=>h.elim,fun b h=>h⟩,.of fun _ h=>h,?_,fun j hj=>.inr ⟨Nat.zero_le _,by cases (show j=0 from hj);rfl⟩,?_,fun j h=>h.elim,fun i j b hi _ hj _ _ _=>(show i=0 from hi).trans (show j=0 from hj).symm,.of_below hb⟩
  ·unfold R;exact⟨rfl,hu2⟩
  ·intro j o hj
   obtain⟨rfl,rfl⟩:=hget j o hj
   refine⟨⟨rfl,?_⟩,rfl,fun _=>rfl⟩
   rcases hX with ⟨h1,h2,h3⟩ | ⟨g,cur,h1,h2,h3,h4,h5,h6⟩
   ·exact .inl ⟨h1,h2,h3⟩
   ·refine .inr ⟨g,cur,h1,fun hf=>absurd (hzl _ hf) (Nat.not_lt.2 h2),h3,by simpa using h4,h5,fun i x hx=>?_⟩
    have hil:=(List.getElem?_eq_some_iff.1 hx).1
    have hc:w'.cell? ⟨g,i,none⟩=some (k.val x):=by
     rw [cell_of_row _ g _ cur te _ h3]
     have:=congrArg (fun l=>l[i]?) h6
     simp only [List.getElem?_take,if_pos hil,List.getElem?_map,hx,Option.map_some] at this
     simpa using this
    unfold RE REs RE2
    refine⟨k.val x,by simpa using hc,?_⟩
    cases k with
    | r _=>cases hk
    | _=>unfold RA AtTy.val;rfl
  ·intro j hj
   cases (show j=0 from hj)
   refine .inr ⟨fun h=>h.elim,rfl,fun b ⟨x,h1,h2⟩=>?_⟩
   have h1:X=some x:=h1
   rcases hX with ⟨h3, -⟩ | ⟨g,cur,h3,h4,h5, -⟩
   ·rw [h3] at h1;cases h1
   ·rw [h3] at h1
    cases h1
    subst h2
    exact⟨row_lt h5,.inl h4⟩
 ·cases hs
theorem FOk.frz {A:Args α} {pre:α→Prop} {v v':α→PV} {eff:α→AH} (h:FOk P f (fsp A pre v eff)) (hd : ∀a,deep (eff a) 12 (v a)=v' a∧(v' a).idIn []=true):FOk P f (fsp A pre v'):=by
 refine⟨h.fn,fun args out hs hp w e vals hz hl=>?_⟩
 unfold fsp at hs
 split at hs
 ·rename_i a ha
  cases hs
  refine (h.run args ⟨[pre a],v a,eff a⟩ (by unfold fsp;rw [ha]) hp w e vals hz hl).mono ?_
  rintro en w' ⟨u,e',rfl,hP⟩
  have hfz':FzW w' e'.fz:=⟨fun b hb=>(hP.fz.fz b hb).elim (fun h=>Nat.lt_of_lt_of_le (hz.lt b h) hP.chg.size) (·.2),(hz.gl.chg hP.chg (fun b hb=>⟨hz.lt b hb,fun ⟨k,hk,_⟩=>hk.elim⟩)).mono hP.le.fz⟩
  have hsee:Sees w' e' (eff a):=⟨fun id o ho=>hP.eff id o ho,hfz',fun k k' b hk hk' hb hb'=>hP.dis k k' b hk (fun h=>h) hk' (fun h=>h) hb hb'⟩
  have hF:Frz w' e' (eff a) { e' with fz:=fun b=>e'.fz b∨w.heap.size≤b∧b<w'.heap.size }:=by
   refine⟨⟨fun _ h=>h,fun _ _=>rfl,fun _ _=>rfl,fun _ _=>rfl,fun b hb=>.inl hb⟩,fun id o b ho hg hb=>.inr ?_⟩
   rcases hP.nlv id ((hP.eff id o ho).2.2 hg) with h1 | ⟨-, -,h1⟩
   ·exact h1.elim
   ·exact⟨(h1 b hb).2.resolve_right fun ⟨j,hj,_⟩=>hj.elim,(h1 b hb).1⟩
  have hR:=deep_R hsee hF 12 (v a) u hP.val
  rw [(hd a).1] at hR
  have hrn:Rn id [] { e' with fz:=fun b=>e'.fz b∨w.heap.size≤b∧b<w'.heap.size } ⟨e'.adr,e'.cap,e'.len,fun b=>e'.fz b∨w.heap.size≤b∧b<w'.heap.size,fun _=>False,fun _=>False⟩:=⟨fun k hk=>absurd hk (by simp),fun _=>rfl,fun _=>rfl,fun _=>rfl,rfl⟩
  exact⟨u,_,rfl,R_rn hrn (v' a) u (hd a).2 (by rw [rn_id];exact hR),⟨fun k hk=>hk.elim,fun k hk=>hk.elim,fun k hk=>hk.elim,fun k hk=>hk.elim,fun b hb=>.inl (hP.le.fz b hb)⟩,
   ⟨fun b hb=>hb.elim (hP.fz.fz b) .inr,fun k b hk=>hk.elim⟩,fun k o hk=>by simp [AH.get] at hk,fun k hk=>hk.elim,fun k hk=>hk.elim,fun k hk=>hk.elim,fun k _ _ hk=>hk.elim,⟨hP.chg.os,hP.chg.tape,hP.chg.output,hP.chg.size,fun b hb _=>hP.chg.block b hb fun ⟨k,hk,_⟩=>hk.elim⟩⟩
 ·cases hs
def FSpec.or (S T:FSpec):FSpec:=fun l=>match S l with | some o=>some o | none=>T l
theorem FOk.or {S T:FSpec} (hS:FOk P f S) (hT:FOk P f T):FOk P f (S.or T):=⟨hS.fn,fun l out h hp=>by
 unfold FSpec.or at h
 split at h
 ·rename_i hs;cases h;exact hS.run l _ hs hp
 ·exact hT.run l out h hp⟩
end
theorem ba_list (l:List UInt8):(ByteArray.mk l.toArray).data.toList =l:=rfl
theorem ba_size (l:List UInt8):(ByteArray.mk l.toArray).size =l.length:=by simp [ByteArray.size]
theorem Rs1 {w:World} {e:Env} {a:PV} {vs:List Value} (h:Rs w e [a] vs) : ∃u,vs=[u]∧R w e a u:=by
 unfold Rs at h
 obtain⟨u,us,rfl,h1,h2⟩:=h
 unfold Rs at h2
 exact⟨u,by rw [h2],h1⟩
theorem Rs2 {w:World} {e:Env} {a b:PV} {vs:List Value} (h:Rs w e [a,b] vs) : ∃u v,vs=[u,v]∧R w e a u∧R w e b v:=by
 unfold Rs at h
 obtain⟨u,us,rfl,h1,h2⟩:=h
 obtain⟨v,rfl,h3⟩:=Rs1 h2
 exact⟨u,v,rfl,h1,h3⟩
theorem Rs3 {w:World} {e:Env} {a b c:PV} {vs:List Value} (h:Rs w e [a,b,c] vs) : ∃u v x,vs=[u,v,x]∧R w e a u∧R w e b v∧R w e c x:=by
 unfold Rs at h
 obtain⟨u,us,rfl,h1,h2⟩:=h
 obtain⟨v,x,rfl,h3,h4⟩:=Rs2 h2
 exact⟨u,v,x,rfl,h1,h3,h4⟩
theorem arr_of {vals:Array Value} {l:List Value} (h:vals.toList=l):vals=l.toArray:=by rw [←h]
def sp_index (p:Pr):FSpec:=fsp (ac aS (a1 aC)) (fun (_,c)=>p.inK .u8 c) (fun (s,c)=>.i .i64 (findI s (u8 c)))
theorem ok_index:FOk Tryz.prog 247 (sp_index std):=by
 refine FOk.of_calls Tryz.func247 rfl rfl fun ⟨s,c⟩ hp w e vals hz hl=>?_
 obtain⟨u,v,hv,h1,h2⟩:=Rs2 hl
 rw [arr_of hv]
 have h1:u=.string ⟨s.toArray⟩:=by unfold R at h1;exact h1
 have h2:v=.int .u8 c:=by unfold R at h2;exact h2
 subst h1 h2
 refine (Tryz.strings_IndexByte ⟨s.toArray⟩ c w).mono ?_
 rintro en w' ⟨rfl,rfl⟩
 refine⟨_,rfl,fun w e=>?_,Below.refl _ _⟩
 rw [ba_list,indexByte_find,←findI_K]
 unfold R
 rfl
def lowU (s:List UInt8):List UInt8:=Lib.toLowerD s
def sp_toLower (p:Pr):FSpec:=fsp (a1 aS) (fun s=>p.leP (p.lenS s) 1073741824) (fun s=>.s (lowU s))
theorem ok_toLower:FOk Tryz.prog 303 (sp_toLower std):=by
 refine FOk.of_calls Tryz.func303 rfl rfl fun s hp w e vals hz hl=>?_
 obtain⟨u,hv,h1⟩:=Rs1 hl
 rw [arr_of hv]
 have h1:u=.string ⟨s.toArray⟩:=by unfold R at h1;exact h1
 subst h1
 have hp:(s.length:Int)≤1073741824:=hp
 have hg:=hz.gl.gl
 refine (Tryz.strings_ToLower_any ⟨s.toArray⟩ w (by rw [ba_size];omega) hg.2.1 hg.2.2).mono ?_
 rintro en w' ⟨rfl,hb⟩
 exact⟨_,rfl,fun w e=>by unfold R;rfl,hb⟩
def repS (s:List UInt8) (n:Int):List UInt8:=Lib.repeatL s n.toNat
def sp_repeat (p:Pr):FSpec:=fsp (ac aS (a1 aI)) (fun (s,n)=>p.leP (p.lenS s) 1073741824∧p.leP 0 n∧p.leP n 65536) (fun (s,n)=>.s (repS s n))
theorem ok_repeat:FOk Tryz.prog 167 (sp_repeat std):=by
 refine FOk.of_calls Tryz.func167 rfl rfl fun ⟨s,n⟩ hp w e vals hz hl=>?_
 obtain⟨u,v,hv,h1,h2⟩:=Rs2 hl
 rw [arr_of hv]
 have h1:u=.string ⟨s.toArray⟩:=by unfold R at h1;exact h1
 have h2:v=.int .i64 n:=by unfold R at h2;exact h2
 subst h1 h2
 obtain⟨p1,p2,p3⟩:(s.length:Int)≤1073741824∧0≤n∧n≤65536:=hp
 obtain⟨N,rfl⟩:=Int.eq_ofNat_of_zero_le p2
 have hm:s.length*N≤1073741824*65536:=Nat.mul_le_mul (by omega) (by omega)
 refine (Tryz.strings_Repeat ⟨s.toArray⟩ N w (by omega) (by rw [ba_size];omega)).mono ?_
 rintro en w' ⟨rfl,hb⟩
 exact⟨_,rfl,fun w e=>by unfold R;rfl,hb⟩
def replS (s old new:List UInt8):List UInt8:=Lib.replaceAll s old new
def sp_replace (p:Pr):FSpec:=fsp (ac aS (ac aS (a1 aS))) (fun (s,old,new)=>p.leP (p.lenS s) 1073741824∧p.leP 1 (p.lenS old)∧new=[]) (fun (s,old,new)=>.s (replS s old new))
theorem ok_replace:FOk Tryz.prog 187 (sp_replace std):=by
 refine FOk.of_calls Tryz.func187 rfl rfl fun ⟨s,o,n⟩ hp w e vals hz hl=>?_
 obtain⟨u,v,x,hv,h1,h2,h3⟩:=Rs3 hl
 rw [arr_of hv]
 have h1:u=.string ⟨s.toArray⟩:=by unfold R at h1;exact h1
 have h2:v=.string ⟨o.toArray⟩:=by unfold R at h2;exact h2
 have h3:x=.string ⟨n.toArray⟩:=by unfold R at h3;exact h3
 subst h1 h2 h3
 obtain⟨p1,p2,rfl⟩:(s.length:Int)≤1073741824∧1≤(o.length:Int)∧n=[]:=hp
 obtain⟨m,hm⟩:=hz.gl.gl.1
 refine (Tryz.strings_ReplaceAll ⟨s.toArray⟩ ⟨o.toArray⟩ ⟨([]:List UInt8).toArray⟩ m w (by rw [ba_size];omega) hm (by rw [ba_size];omega) (by simp [ByteArray.size];omega)).mono ?_
 rintro en w' ⟨rfl,hb⟩
 exact⟨_,rfl,fun w e=>by unfold R;rfl,hb⟩
end Ax
end Go.Proofs.YtjjonmhpgkahoaaGreatDoor
namespace Go.Proofs.YtjjonmhpgkahoaaGreatDoor
open Go.RowKit
set_option maxHeartbeats 1000000
set_option maxRecDepth 100000
theorem i64T:SlT Tryz.prog 24 2 (.int .i64 0) 1 8:=⟨Tryz.underlying24,by kernel_rfl,rfl,by decide⟩
theorem strT:SlT Tryz.prog 27 9 (.string ⟨#[]⟩) 1 16:=⟨Tryz.underlying27,by kernel_rfl,rfl,by decide⟩
theorem clone_i64 (A:Option Addr) (c n:Nat) (xs:List Value) (w:World) (h:Reads w w.heap.size 1 A n xs) (h1 : ∀u∈xs,u.oneCell'=true) (hn:n≤2 ^ 38) (h0:A=none→n=0) :
 Calls Tryz.prog 209 #[.slice A n c] w fun e w'=>∃v,e=.returned v∧w'.ownsRow w.heap.size 2 1 v n xs∧Below w.heap.size w w':=by
 have q22 : ∀(w:World) (a:Option Addr) (n c n' c':Nat),(binOp .eql 24 (.slice a n c) (.slice none n' c')).run Tryz.prog w=.ok (.bool a.isNone) w:=fun w a n c n' c'=>Lib.run_eql_slice_nil w _ _ a n c n' c' Tryz.underlying24
 have hr:Reads (w.alloc (.cells #[] 2)) w.heap.size 1 A n xs:=h.alloc (Nat.le_refl _) _
 have own0:=World.ownsRow_lit (base:=w.heap.size) (size:=1) (e:=2) w #[] 0 (Nat.le_refl _) (by unfold maxLen;omega) rfl
 have hb0:=(Below.refl w.heap.size w).alloc (Nat.le_refl _) (.cells #[] 2)
 cases A with
 | none=>
   obtain rfl:=h0 rfl
   have hx:xs=[]:=List.eq_nil_of_length_eq_zero (by simpa using h.1)
   subst hx
   clear hr own0 hb0 h
   go_enter Tryz.func209,Tryz.ntmps209
   go_wp2_with (fail)
   go_ret
   exact⟨_,rfl,World.ownsRow_nil _ _ _ _,Below.refl _ _⟩
 | some ad=>
   clear h h0
   go_enter Tryz.func209,Tryz.ntmps209
   go_wp2_with (at_builtin;refine wpList_apps i64T rfl (.tmp 5) (.tmp 6) rfl _ 0 [] rfl w.heap.size own0 w.heap.size (some ad) n c xs rfl hr h1 (by omega) (by omega) hb0.size ?_;intro v1 w1 own1 hg1 _)
   go_ret
   exact⟨_,rfl,own_cast own1 (by simp) (by omega),Below.own hb0 hb0.size own0 (Nat.le_refl _) hg1⟩
theorem clone_str (A:Option Addr) (c n:Nat) (xs:List Value) (w:World) (h:Reads w w.heap.size 1 A n xs) (h1 : ∀u∈xs,u.oneCell'=true) (hn:n≤2 ^ 38) (h0:A=none→n=0) :
 Calls Tryz.prog 208 #[.slice A n c] w fun e w'=>∃v,e=.returned v∧w'.ownsRow w.heap.size 9 1 v n xs∧Below w.heap.size w w':=by
 have q22 : ∀(w:World) (a:Option Addr) (n c n' c':Nat),(binOp .eql 27 (.slice a n c) (.slice none n' c')).run Tryz.prog w=.ok (.bool a.isNone) w:=fun w a n c n' c'=>Lib.run_eql_slice_nil w _ _ a n c n' c' Tryz.underlying27
 have hr:Reads (w.alloc (.cells #[] 9)) w.heap.size 1 A n xs:=h.alloc (Nat.le_refl _) _
 have own0:=World.ownsRow_lit (base:=w.heap.size) (size:=1) (e:=9) w #[] 0 (Nat.le_refl _) (by unfold maxLen;omega) rfl
 have hb0:=(Below.refl w.heap.size w).alloc (Nat.le_refl _) (.cells #[] 9)
 cases A with
 | none=>
   obtain rfl:=h0 rfl
   have hx:xs=[]:=List.eq_nil_of_length_eq_zero (by simpa using h.1)
   subst hx
   clear hr own0 hb0 h
   go_enter Tryz.func208,Tryz.ntmps208
   go_wp2_with (fail)
   go_ret
   exact⟨_,rfl,World.ownsRow_nil _ _ _ _,Below.refl _ _⟩
 | some ad=>
   clear h h0
   go_enter Tryz.func208,Tryz.ntmps208
   go_wp2_with (at_builtin;refine wpList_apps strT rfl (.tmp 5) (.tmp 6) rfl _ 0 [] rfl w.heap.size own0 w.heap.size (some ad) n c xs rfl hr h1 (by omega) (by omega) hb0.size ?_;intro v1 w1 own1 hg1 _)
   go_ret
   exact⟨_,rfl,own_cast own1 (by simp) (by omega),Below.own hb0 hb0.size own0 (Nat.le_refl _) hg1⟩
namespace Ax
theorem SlR.reads {w:World} {e:Env} {k:AtTy} (hk:k.flat=true) {L:List k.Ty} {u:Value} (hz : ∀b,e.fz b→b<w.heap.size) (h:R w e (.rsl [k] L) u) :
 ∃A c,u=.slice A L.length c∧Reads w w.heap.size 1 A L.length (L.map k.val)∧∀x∈L.map k.val,x.oneCell'=true:=by
 obtain⟨X,C,hu,hC,hX⟩ : ∃X C,u=.slice X L.length C∧L.length≤C∧∀i x,L[i]? =some x→∃b o,X=some ⟨b,o,none⟩∧e.fz b∧RE w e.fz [k] b (o+i*1) x:=by unfold R at h;exact h
 have hv : ∀x v,RA w e.fz k x v→v=k.val x:=fun x v h=>by
  cases k with
  | r _=>cases hk
  | _=>unfold RA at h;exact h
 refine⟨X,C,hu,⟨by simp,fun h0=>?_⟩,fun x hx=>?_⟩
 ·obtain⟨b,o,hX0,hfb, -⟩:=hX 0 _ (List.getElem?_eq_getElem h0)
  subst hX0
  refine⟨_,rfl,hz b hfb,fun j x hj=>?_⟩
  rw [List.getElem?_map,Option.map_eq_some_iff] at hj
  obtain⟨y,hy,rfl⟩:=hj
  obtain⟨b',o',h3, -,h4⟩:=hX j _ hy
  cases h3
  unfold RE REs RE2 at h4
  obtain⟨x,h5,h6⟩:=h4
  rw [hv _ _ h6,Nat.mul_one] at h5
  have hadd:(⟨b,o,none⟩:Addr).add j=⟨b,o+j,none⟩:=by unfold Addr.add;split<;>simp_all
  rw [hadd]
  exact h5
 ·obtain⟨y, -,rfl⟩:=List.mem_map.1 hx
  cases k with
  | r _=>cases hk
  | _=>rfl
theorem SlR.none {w:World} {e:Env} {k:AtTy} {L:List k.Ty} {c:Nat} (h:R w e (.rsl [k] L) (.slice .none L.length c)):L.length=0:=by
 obtain⟨X,C,hu,hC,hX⟩ : ∃X C,Value.slice .none L.length c=.slice X L.length C∧L.length≤C∧∀i x,L[i]? =some x→∃b o,X=some ⟨b,o,.none⟩∧e.fz b∧RE w e.fz [k] b (o+i*1) x:=by unfold R at h;exact h
 cases hu
 cases L with
 | nil=>rfl
 | cons x r=>obtain⟨b,o,h1, -⟩:=hX 0 x rfl;cases h1
def sp_cloneN (p:Pr):FSpec:=fsp (a1 aN) (fun l=>p.leP (p.len l) 1073741824) (fun _=>.osl 0) fun l=>[(0,.own [.i .i64] l 2)]
theorem ok_cloneN:FOk Tryz.prog 209 (sp_cloneN std):=by
 refine FOk.of_row (k:=.i .i64) (L:=fun l=>l) rfl Tryz.func209 rfl rfl fun l hp w e vals hz hl=>?_
 obtain⟨u,hv,h1⟩:=Rs1 hl
 rw [arr_of hv]
 obtain⟨A,c,rfl,h2,h3⟩:=SlR.reads (k:=.i .i64) rfl hz.lt h1
 have hp:(l.length:Int)≤1073741824:=hp
 exact clone_i64 A c _ _ w h2 h3 (by omega) fun h=>by subst h;exact SlR.none (k:=.i .i64) h1
def sp_cloneW (p:Pr):FSpec:=fsp (a1 aW) (fun l=>p.leP (p.len l) 1073741824) (fun _=>.osl 0) fun l=>[(0,.own [.s] l 9)]
theorem ok_cloneW:FOk Tryz.prog 208 (sp_cloneW std):=by
 refine FOk.of_row (k:=.s) (L:=fun l=>l) rfl Tryz.func208 rfl rfl fun l hp w e vals hz hl=>?_
 obtain⟨u,hv,h1⟩:=Rs1 hl
 rw [arr_of hv]
 obtain⟨A,c,rfl,h2,h3⟩:=SlR.reads (k:=.s) rfl hz.lt h1
 have hp:(l.length:Int)≤1073741824:=hp
 exact clone_str A c _ _ w h2 h3 (by omega) fun h=>by subst h;exact SlR.none (k:=.s) h1
end Ax
end Go.Proofs.YtjjonmhpgkahoaaGreatDoor
