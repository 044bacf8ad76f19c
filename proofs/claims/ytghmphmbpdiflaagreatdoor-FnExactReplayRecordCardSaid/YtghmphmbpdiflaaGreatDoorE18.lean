/-
  What the start world holds, out of its row's list; What the start world holds, out of its row's list; what games and plays come in; Games of the spec package: clocks, changes, ends; Valid tile sets and setups, of the spec package; Valid games, of the spec package; The words of a play, whether it touches, its code: both packages' are the same; Facts of valid tile sets and of valid games; Valid games, codes of actions, turns with a play, of the spec package; Codes of actions, of the spec package; Exits of a turn with a play, of the spec package.
  Conditions: none.
-/
import Derived.Test.YtghmphmbpdiflaaGreatDoorE02
import Derived.Test.YtghmphmbpdiflaaGreatDoorE17
import Derived.Lib.LaidCase
import Derived.PinnedBridge
import Derived.ProofKit
import Derived.LaidMore
import Derived.Shelf.Vars
import Derived.ShapedOpen
import Derived.Test.YtghmphmbpdiflaaGreatDoorRows
import Derived.Test.YtghmphmbpdiflaaGreatDoorE11
import Derived.Test.YtghmphmbpdiflaaGreatDoorE16
import Derived.Lay
import Derived.SizedLaws
import Derived.ChangeSlices
set_option linter.unusedSimpArgs false
set_option linter.unusedVariables false
namespace Go.Proofs.YtghmphmbpdiflaaGreatDoor
open Go.RowKit Go.Shelf
set_option maxRecDepth 100000
namespace Ax
theorem max_gl {W:World} (h:W.ShapedOpen Tryz.prog) : ∃m:Int,W.cell? ⟨0,0,none⟩=some (.int .i64 m):=
 cell_of_shapedOpen_int (g:=0) (t:=3) (zero:=#[.int .i64 0]) (k:=.i64) h (of_decide_eq_true (by kernel_rfl)) (by kernel_rfl) rfl (by kernel_rfl) (by kernel_rfl) Tryz.underlying3
theorem gl_of {W:World} (hsh:W.ShapedOpen Tryz.prog) {l:List (String×DataW Unit)} (h:laidMet Tryz.prog l W) (h1:("unicode.CaseRanges",Pinned.caseRanges)∈l) (h2:("unicode/utf8.first",Pinned.utf8First)∈l) (h3:("unicode/utf8.acceptRanges",Lib.acceptData)∈l):Gl W:=by
 refine⟨max_gl hsh,?_,?_⟩
 ·exact caseVar_of_reads (ρ:=Tryz.lays159_ren) { Tryz.lays159 with } (by kernel_rfl) ⟨by kernel_rfl,by kernel_rfl,by kernel_rfl,by kernel_rfl,by kernel_rfl,by kernel_rfl⟩ (Pinned.caseRanges_eq ▸ Lib.laidMet.reads h h1)
 ·exact utf8Tabs_of_reads (ρ:=Tryz.lays159_ren) { Tryz.lays159 with } ⟨by kernel_rfl,by kernel_rfl,by kernel_rfl,by kernel_rfl,by kernel_rfl,by kernel_rfl,by kernel_rfl⟩ (Pinned.utf8First_eq ▸ Lib.laidMet.reads h h2) (Lib.laidMet.reads h h3)
end Ax
end Go.Proofs.YtghmphmbpdiflaaGreatDoor
namespace Go.Proofs.YtghmphmbpdiflaaGreatDoor
open Go.ChangeShapes Go.WideShapes Go.ChangeAt Go.RowKit Go.Joins
set_option maxRecDepth 100000
theorem change_shaped_and {H:Type} {enc:TypeId×Value→H} {a:Assume} {C:Checked} {os:Os} {f:FuncId} {fn:Func} {s:ChangeSpec} {conds:List PathCond} {apart fresh handsOn again:Bool} {X:World→Array Value→Prop}
 (hX : ∀(w w':World) (args:Array Value),w.heap=w'.heap→X w args→X w' args)
 (own:ownKnob C.prog.godebug=none) (started:os.Started) (noInit:C.prog.inits.idxOf? f=none) (hfn:C.prog.funcs[f]? =some fn)
 (witness : ∃(w:World) (tape:Tape) (i:Input),w.os=os∧(w.forCall tape i).Shaped C.prog∧i.vars=[]∧Input.okWide C.prog (w.forCall tape i) .any w.heap.size f i∧
   ((s.pre enc C.prog fn conds apart (w.forCall tape i).memory i.args∧X (w.forCall tape i).memory i.args)∧sizedMet enc C.prog fn (OpenSpec.ofChange s) apart (w.forCall tape i).memory i.args)∧a.holds C.prog (lone (Frame.enter C.prog f i.args .normal) [] (w.forCall tape i)))
 (contract : ∀(W:World) (base:Nat) (args:Array Value) (ds gs:List (DataW H)) (before:List MemPlace),
   (∀(j:Nat) t v,fn.params[j]? =some t→args[j]? =some v→Value.okWide C.prog W .any base t v)→
   DataW.Whole enc C.prog fn.params.toList s.vars apart W args.toList ds gs before→
   W.ShapedOpen C.prog→X W args→
   Calls C.prog f args W fun e W'=>∃v,e=.returned v∧s.post enc C.prog fn apart fresh handsOn again W args v W') :
 ReturnsInHanded a C os f .any (fun w args=>(s.pre enc C.prog fn conds apart w args∧X w args)∧sizedMet enc C.prog fn (OpenSpec.ofChange s) apart w args) (s.post enc C.prog fn apart fresh handsOn again):=by
 refine returnsInHanded_of_calls own started noInit witness ?_
 intro w tape i _ hsh _ hok hpre _
 obtain⟨_,_,_,fn',hfn',_,_,_,_,hval⟩:=hok
 have e:fn'=fn:=Option.some.inj (hfn'.symm.trans hfn)
 subst e
 obtain⟨⟨⟨ds,gs,before,hw,_⟩,hx⟩,_⟩:=hpre
 have hw':=DataW.Whole.of_heap (w':=w.forCall tape i) (by rfl) hw
 refine (contract (w.forCall tape i) w.heap.size i.args ds gs before hval hw' hsh (hX _ _ _ (by rfl) hx)).mono fun e W' ⟨v,he,hp⟩=>?_
 subst he
 exact ChangeSpec.post_blind hp
theorem ownM:ownKnob Tryz.prog.godebug=none:=by kernel_rfl
theorem laidOutM:laidOutB Tryz.prog=true:=by kernel_rfl
namespace Ax
theorem szw {x:List (List UInt8)} (h:SzA (.r [.s]) x):LxZ x:=by
 unfold SzA at h
 refine⟨h.1,fun y hy=>?_⟩
 have:=h.2 y hy
 unfold SzE SzEs SzA at this
 exact this
theorem szn {x:List Int} (h:SzA (.r [.i .i64]) x):(x.length:Int)≤9223372036854775807:=by
 unfold SzA at h
 exact h.1
theorem szs {x:List UInt8} (h:SzA .s x):(x.length:Int)≤9223372036854775807:=by
 unfold SzA at h
 exact h
def e0 (W:World):Env:=⟨fun _=>none,fun _=>0,fun _=>0,fun b=>b<W.heap.size,fun _=>False,fun _=>False⟩
theorem e0_ok {W:World} (h:Gl W):FzW W (e0 W).fz :=⟨fun _ h=>h,W,h,fun _ h=>h,Below.refl _ _⟩
theorem law_true {f:FuncId} {S:FSpec} (h:FOk Tryz.prog f S) {args:List PV} {pre:Prop} (hs:S args=some ⟨[pre],.bt,[]⟩) (hp:pre) {W:World} (hg:Gl W) {vals:Array Value} (hl:Rs W (e0 W) args vals.toList) :
 Calls Tryz.prog f vals W fun e W'=>e=.returned (.bool true)∧Below W.heap.size W W':=by
 refine (h.run args _ hs (fun p hm=>by rw [List.mem_singleton.1 hm];exact hp) W (e0 W) vals (e0_ok hg) hl).mono ?_
 rintro en w' ⟨u,e',rfl,hP⟩
 have hv:=hP.val
 unfold R at hv
 subst hv
 exact⟨rfl,⟨hP.chg.os,hP.chg.tape,hP.chg.output,hP.chg.size,fun b hb=>hP.chg.block b hb fun ⟨k,hk,_⟩=>hk.elim⟩⟩
theorem Rsl_one {W:World} {e:Env} {p:PV} {u:Value} (h:R W e p u):Rs W e [p] [u]:=by
 unfold Rs
 exact⟨u,[],rfl,h,by unfold Rs;rfl⟩
theorem Rsl_cons {W:World} {e:Env} {p:PV} {u:Value} {l:List PV} {v:List Value} (h:R W e p u) (h2:Rs W e l v):Rs W e (p::l) (u::v):=by
 unfold Rs
 exact⟨u,v,rfl,h,h2⟩
end Ax
end Go.Proofs.YtghmphmbpdiflaaGreatDoor
namespace Go.Proofs.YtghmphmbpdiflaaGreatDoor
namespace Ax
set_option maxRecDepth 100000
set_option maxHeartbeats 2000000
def ckL (g:Gm) (n:Int):List Int:=g.clocks.set g.player.toNat (g.clk g.player-n)
def clockG (g:Gm) (n:Int):Gm:={ g with clocks:=ckL g n }
def gmHk (g g':Gm):AH:=[(0,.cells (gmK g' (.osl 1) (.osl 2) (.osl 3) (.osl 4) (.osl 5) (.osl 7)) 41),(1,.own [.i .i64] g.ts.values 2),(2,.own [.i .i64] g.ts.counts 2),(3,.own [.s] g.lex 9),(4,.own [.s] g.racks 9),
 (5,.own [.i .i64] g.scores 2),(6,.own [.i .i64] g.clocks 2),(7,.own [.i .i64] g'.clocks 2)]
def gmHs (g g':Gm):AH:=[(0,.cells (gmK g' (.osl 1) (.osl 2) (.osl 3) (.osl 4) (.osl 7) (.osl 6)) 41),(1,.own [.i .i64] g.ts.values 2),(2,.own [.i .i64] g.ts.counts 2),(3,.own [.s] g.lex 9),(4,.own [.s] g.racks 9),
 (5,.own [.i .i64] g.scores 2),(6,.own [.i .i64] g.clocks 2),(7,.own [.i .i64] g'.scores 2)]
structure CkP (g:Gm) (n:Int):Prop where
 len:g.clocks.length=2
 ply:g.player=0∨g.player=1
 num : -72000≤g.clk g.player-n∧g.clk g.player-n≤72000
theorem ck_in {g:Gm} {n:Int} (hp:CkP g n):std.inL g.player (std.len g.clocks):=by
 have:=hp.len
 refine⟨?_,?_⟩
 ·rcases hp.ply with h | h<;>omega
 ·show g.player<(g.clocks.length:Int)
  rcases hp.ply with h | h<;>omega
def sp_s_l18Clock (p:Pr):MSpec:=msp (mG (a1 aI)) (fun (g,n)=>CkP g n) (fun (g,n)=>.tup []) (fun (g,n)=>gmHk g { g with clocks:=ckL g n })
theorem ok_s_l18Clock:MOk Tryz.prog 174 (sp_s_l18Clock std):=by
 refine MOk.go (c:=cx std [(172,sp_s_l00Own std)] [] 7) (cx_ok (.cons ok_s_l00Own .nil) .nil) mixed Tryz.func174 rfl rfl (by kernel_rfl) ?_
 rintro ⟨g,n⟩ hp
 dsimp only at hp
 refine⟨rfl,?_⟩
 unfold sp_s_l00Own
 generalize hP:std=p,hB0:ckL=B0
 cbv
 repeat' first
  | (refine fun (_:Unit)=>?_;cbv)
  | (refine aI2 (fun h=>?_) (fun h=>?_)<;>cbv)
  | (refine aI2 ?_ ?_)
  | (refine Or.inl (fun (_:Unit)=>?_);cbv)
 all_goals subst hP hB0
 all_goals have f1:=ck_in hp
 all_goals try exact fin
 ·exact ltM_of (by rw [hp.len];decide)
 ·have:=hp.num
  exact in64 (by show _≤g.clk g.player-n∧g.clk g.player-n≤_;omega)
structure EndP (g:Gm):Prop where
 ts:TsOk g.ts
 rk:g.racks.length=2
 ck:g.clocks.length=2
 len : ∀k:Int,(g.rk k).length ≤7
 clk : ∀k:Int, -36000≤g.clk k
def chgs (g:Gm):List Int:=[chg g 0,chg g 1]
section
variable {g:Gm} {k:Int}
theorem e_sum (hp:EndP g) (k:Int):0≤sumT g.ts (g.rk k)∧sumT g.ts (g.rk k)≤140:=by
 have h1:=sumT_bd hp.ts (g.rk k)
 have h2:=hp.len k
 omega
theorem e_pen (hp:EndP g) (k:Int):0≤pen (g.clk k)∧pen (g.clk k)≤6010:=Go.Proofs.YtghmphmbpdiflaaGreatDoor.pen_bd (hp.clk k)
theorem e_yes (h:std.eqS (g.rk k) []=true):0-sumT g.ts (g.rk k)-pen (g.clk k)+sumT g.ts (g.rk (1-k))=chg g k:=by
 have h:g.rk k=[]:=by simpa using h
 unfold chg
 rw [h]
 simp only [List.isEmpty_nil,if_true]
 omega
theorem e_no (h:std.eqS (g.rk k) []=false):0-sumT g.ts (g.rk k)-pen (g.clk k)=chg g k:=by
 have h:g.rk k≠[]:=by simpa using h
 unfold chg
 rw [if_neg (by simpa using h)]
 omega
theorem chg_bd (hp:EndP g) (k:Int) : -10000≤chg g k∧chg g k≤10000:=by
 have h1:=e_sum hp k
 have h2:=e_pen hp k
 have h3:=e_sum hp (1-k)
 unfold chg
 split<;>omega
theorem chgs_step (h0:0≤k) (h:k<2):(chgs g).take k.toNat++[chg g k]=(chgs g).take (k+1).toNat :=by
 rw [tk h0 (by show k<2;omega) 0]
 congr 2
 rcases (show k=0∨k=1 from by omega) with rfl | rfl<;>rfl
end
def sp_s_l18Change (p:Pr):FSpec:=fsp (a1 (aP aGm)) (fun g=>EndP g) (fun g=>.osl 0) (fun g=>[(0,.own [.i .i64] (chgs g) 2)])
theorem ok_s_l18Change:FOk Tryz.prog 84 (sp_s_l18Change std):=by
 refine FOk.go (c:=cx std [(164,sp_s_l02Sum std),(87,sp_s_l18Penalty std)] [] 0) (cx_ok (.cons ok_s_l02Sum (.cons ok_s_l18Penalty .nil)) .nil) mixed Tryz.func84 rfl rfl rfl (by kernel_rfl) ?_
 rintro g hp
 refine⟨rfl,?_⟩
 unfold sp_s_l02Sum sp_s_l18Penalty
 obtain⟨H,hH⟩ : ∃H:Hd (Int×List Int),H=⟨fun (k,L)=>0≤k∧k≤2∧L=(chgs g).take k.toNat,fun (k,L)=>(2-k).toNat,(· < ·)⟩:=⟨_,rfl⟩
 have hl : ∀m n,H.lt m n→m<n:=by subst hH;exact fun _ _ h=>h
 generalize hP:std=p,hB0:chgs=B0,hB1:sumT=B1,hB2:pen=B2
 cbv
 repeat' first
  | (refine fun (_:Unit)=>?_;cbv)
  | (refine Or.inr ⟨8,[],[.s 4 (.i .i64),.o 0 [.i .i64]],[.s 3],[],H,rfl,hl,?_,fun ((k,L):Int×List Int) hk=>?_⟩<;>cbv)
  | (refine aI2 (fun h=>?_) (fun h=>?_)<;>cbv)
  | (refine aI2 ?_ ?_)
 all_goals subst hP hB0 hB1 hB2 hH
 all_goals clear hl
 all_goals try dsimp only at hk
 all_goals try dsimp only
 all_goals try exact fin
 all_goals obtain⟨q0,q1,rfl⟩:=hk
 all_goals try (have h1:k<2:=lt_of ‹_›)
 all_goals have a1:=e_sum hp k
 all_goals have a2:=e_pen hp k
 all_goals have a3:=e_sum hp (1-k)
 all_goals have a4:=hp.rk
 all_goals have a5:=hp.ck
 all_goals have a6:=hp.len k
 all_goals have a7:=hp.len (1-k)
 all_goals have a8:=hp.clk k
 ·exact⟨q0,by show k<(g.racks.length:Int);omega⟩
 ·exact ltM_of (n:=(g.rk k).length) (by omega)
 ·exact in64 (by show _≤0-sumT g.ts (g.rk k)∧0-sumT g.ts (g.rk k)≤_;omega)
 ·exact⟨q0,by show k<(g.clocks.length:Int);omega⟩
 ·exact a8
 ·exact in64 (by show _≤0-sumT g.ts (g.rk k)-pen (g.clk k)∧0-sumT g.ts (g.rk k)-pen (g.clk k)≤_;omega)
 ·exact⟨q0,by show k<(g.racks.length:Int);omega⟩
 ·exact⟨by show 0≤1-k;omega,by show 1-k<(g.racks.length:Int);omega⟩
 ·exact ltM_of (n:=(g.rk (1-k)).length) (by omega)
 ·exact in64 (by show _≤0-sumT g.ts (g.rk k)-pen (g.clk k)+sumT g.ts (g.rk (1-k))∧0-sumT g.ts (g.rk k)-pen (g.clk k)+sumT g.ts (g.rk (1-k))≤_;omega)
 ·show (((chgs g).take k.toNat).length : Int)+1≤_
  rw [List.length_take];omega
 ·refine⟨by show 0≤k+1;omega,by show k+1≤2;omega,?_⟩
  show (chgs g).take k.toNat++[0-sumT g.ts (g.rk k)-pen (g.clk k)+sumT g.ts (g.rk (1-k))]=(chgs g).take (k+1).toNat
  rw [e_yes (k:=k) ‹_›,chgs_step q0 h1]
 ·show (((chgs g).take k.toNat).length : Int)+1≤_
  rw [List.length_take];omega
 ·refine⟨by show 0≤k+1;omega,by show k+1≤2;omega,?_⟩
  show (chgs g).take k.toNat++[0-sumT g.ts (g.rk k)-pen (g.clk k)]=(chgs g).take (k+1).toNat
  rw [e_no (k:=k) ‹_›,chgs_step q0 h1]
 ·rw [tk_all (show ((chgs g).length : Int)≤k from ge_of ‹_›)]
structure SetP (g:Gm):Prop where
 en:EndP g
 len:g.scores.length=2
 lo : ∀k:Int, -1000000≤g.sc k
 hi : ∀k:Int,g.sc k≤1000000
def setSc (g:Gm):List Int:=[g.sc 0+chg g 0,g.sc 1+chg g 1]
theorem two_0 {L:List Int} (h:L.length=2):std.inL 0 (std.len L):=⟨Int.le_refl 0,by show (0:Int)<(L.length:Int);omega⟩
theorem two_1 {L:List Int} (h:L.length=2):std.inL 1 (std.len L):=⟨by decide,by show (1:Int)<(L.length:Int);omega⟩
theorem set_num {g:Gm} (h:SetP g) (k:Int) : -9223372036854775808≤g.sc k+chg g k∧g.sc k+chg g k≤9223372036854775807:=by
 have h1:=chg_bd h.en k
 have h2:=h.lo k
 have h3:=h.hi k
 omega
def sp_s_l18Settle (p:Pr):MSpec:=msp (mG a0) (fun (g,_u)=>SetP g) (fun (g,_u)=>.tup []) (fun (g,_u)=>gmHs g { g with scores:=setSc g,over:=true })
theorem ok_s_l18Settle:MOk Tryz.prog 175 (sp_s_l18Settle std):=by
 refine MOk.go (c:=cx std [(84,sp_s_l18Change std)] [] 7) (cx_ok (.cons ok_s_l18Change .nil) .nil) mixed Tryz.func175 rfl rfl (by kernel_rfl) ?_
 rintro ⟨g,_u⟩ hp
 dsimp only at hp
 refine⟨rfl,?_⟩
 unfold sp_s_l18Change
 generalize hP:std=p,hB0:chgs=B0,hB1:setSc=B1
 cbv
 repeat' first
  | (refine fun (_:Unit)=>?_;cbv)
  | (refine aI2 (fun h=>?_) (fun h=>?_)<;>cbv)
  | (refine aI2 ?_ ?_)
  | (refine Or.inl (fun (_:Unit)=>?_);cbv)
 all_goals subst hP hB0 hB1
 all_goals try exact fin
 ·exact two_0 hp.len
 ·exact two_0 hp.len
 ·exact two_0 (L:=chgs g) rfl
 ·exact two_0 (L:=chgs g) rfl
 ·exact in64 (set_num hp 0)
 ·exact two_1 hp.len
 ·exact two_1 hp.len
 ·exact two_1 (L:=chgs g) rfl
 ·exact two_1 (L:=chgs g) rfl
 ·exact in64 (set_num hp 1)
end Ax
namespace Ax
set_option maxRecDepth 100000
set_option maxHeartbeats 2000000
def tripB:Option UInt8→List UInt8→List Int→List Int→Bool
 | p,a::r,v::vs,c::cs=>smallB a&&(aftB p a&&(inR v 0 20&&(inR c 1 20&&tripB (some a) r vs cs)))
 | _,_,_,_=>true
theorem tripB_eq : ∀(l:List UInt8) (p:Option UInt8) (vs cs:List Int),vs.length=l.length→cs.length=l.length→tripB p l vs cs=(smFrom p l&&vcB vs cs)
 | [],p,[],[],_,_=>rfl
 | [],_,_::_,_,h,_=>by simp at h
 | [],_,[],_::_,_,h=>by simp at h
 | _::_,_,[],_,h,_=>by simp at h
 | _::_,_,_::_,[],_,h=>by simp at h
 | a::l,p,v::vs,c::cs,h1,h2=>by
   rw [tripB,smFrom,vcB,tripB_eq l (some a) vs cs (by simpa using h1) (by simpa using h2)]
   cases smallB a<;>cases aftB p a<;>cases inR v 0 20<;>cases inR c 1 20<;>cases smFrom (some a) l<;>simp
theorem smFrom_len : ∀(l:List UInt8) (q:UInt8),smFrom (some q) l=true→smallB q=true→l.length+q.toNat≤122
 | [],q,_,hq=>by
   unfold smallB at hq
   simp only [Bool.and_eq_true,decide_eq_true_eq] at hq
   simp only [List.length_nil]
   omega
 | a::r,q,h,_=>by
   rw [smFrom] at h
   simp only [Bool.and_eq_true,aftB,decide_eq_true_eq] at h
   have h2:=smFrom_len r a h.2.2 h.1
   rw [List.length_cons]
   omega
theorem smFrom_26 {l:List UInt8} (h:smFrom none l=true):l.length≤26:=by
 match l,h with
 | [],_=>exact Nat.zero_le _
 | a::r,h=>
   rw [smFrom] at h
   simp only [Bool.and_eq_true] at h
   have h2:=smFrom_len r a h.2.2 h.1
   have h3:=h.1
   unfold smallB at h3
   simp only [Bool.and_eq_true,decide_eq_true_eq] at h3
   rw [List.length_cons]
   omega
def prevL (l:List UInt8) (k:Nat):Option UInt8:=if k=0 then none else l[k-1]?
theorem tripB_step (L:List UInt8) (V C:List Int) (k:Nat) (h:k<L.length) (h1:k<V.length) (h2:k<C.length) :
 tripB (prevL L k) (L.drop k) (V.drop k) (C.drop k)=(smallB L[k]&&(aftB (prevL L k) L[k]&&(inR V[k] 0 20&&(inR C[k] 1 20&&tripB (prevL L (k+1)) (L.drop (k+1)) (V.drop (k+1)) (C.drop (k+1)))))):=by
 have e:prevL L (k+1)=some L[k]:=by unfold prevL;rw [if_neg (by omega)];simp
 rw [e,List.drop_eq_getElem_cons h,List.drop_eq_getElem_cons h1,List.drop_eq_getElem_cons h2]
 rfl
theorem tsB_trip (t:TS):tsB t=(inR t.letters.length 1 26&&(decide (t.values.length=t.letters.length)&&(decide (t.counts.length=t.letters.length)&&(inR t.blanks 0 4&&(tripB none t.letters t.values t.counts&&decide (t.blanks+t.counts.sum≤120)))))):=by
 unfold tsB
 by_cases h1:t.values.length=t.letters.length
 ·by_cases h2:t.counts.length=t.letters.length
  ·rw [tripB_eq _ _ _ _ h1 h2,decide_eq_true h1,decide_eq_true h2]
   cases hs:smFrom none t.letters
   ·simp
   ·have:=smFrom_26 hs
    have e:inR (t.letters.length:Int) 1 26=decide (1≤t.letters.length):=by
     unfold inR
     rw [Bool.eq_iff_iff]
     simp
     omega
    rw [e]
    simp
  ·rw [decide_eq_false h2]
   simp
 ·rw [decide_eq_false h1]
  simp
def trK (t:TS) (k:Int):Bool:=tripB (prevL t.letters k.toNat) (t.letters.drop k.toNat) (t.values.drop k.toNat) (t.counts.drop k.toNat)
def rise (t:TS) (k:Int):Bool:=aftB (prevL t.letters k.toNat) (t.letters.getD k.toNat 0)
section
variable {t:TS} {k:Int}
theorem tr_step (hv:t.values.length=t.letters.length) (hc:t.counts.length=t.letters.length) (h0:0≤k) (h:k<t.letters.length):trK t k=(inR (std.byte t.letters k) 97 122&&(rise t k&&(inR (std.get 0 t.values k) 0 20&&(inR (std.get 0 t.counts k) 1 20&&trK t (k+1))))):=by
 have h1:k.toNat<t.letters.length:=by omega
 unfold trK rise
 rw [tripB_step _ _ _ _ h1 (by omega) (by omega),show (k+1).toNat =k.toNat+1 from by omega,sd_byte,sd_get,sd_get]
 simp only [List.getD_eq_getElem?_getD,List.getElem?_eq_getElem h1,List.getElem?_eq_getElem (show k.toNat<t.values.length by omega),List.getElem?_eq_getElem (show k.toNat<t.counts.length by omega),Option.getD_some]
 congr 1
theorem rise_0 (h0:0≤k) (h:std.ltI 0 k=false):rise t k=true:=by
 have h1:=ge_of h
 have h2:k.toNat=0:=by omega
 unfold rise prevL
 rw [h2,if_pos rfl];rfl
theorem rise_e (h0:std.ltI 0 k=true) (h:k<t.letters.length):rise t k=!(std.leI (std.byte t.letters k) (std.byte t.letters (std.sub k 1))):=by
 have h1:=lt_of h0
 unfold rise prevL
 rw [if_neg (by omega)]
 simp only [sd_leI,sd_byte,sd_sub]
 rw [show (k-1).toNat =k.toNat-1 from by omega]
 rw [List.getD_eq_getElem?_getD (i:=k.toNat-1),List.getElem?_eq_getElem (show k.toNat-1<t.letters.length by omega)]
 show decide _=_
 rw [Bool.eq_iff_iff]
 simp
theorem tr_no (e:tsB t=(trK t k&&decide (t.blanks+t.counts.sum≤120))) {a r v n z:Bool} (st:trK t k=(a&&(r&&(v&&(n&&z))))) (h:(a&&(r&&(v&&n)))=false):tsB t=false:=by
 rw [e,st]
 revert h
 cases a<;>cases r<;>cases v<;>cases n<;>simp
end
theorem ts_n1 {t:TS} (h:inR t.letters.length 1 26=false):tsB t=false:=by rw [tsB_trip,h];rfl
theorem ts_n2 {t:TS} (h : ¬t.values.length=t.letters.length):tsB t=false:=by rw [tsB_trip,decide_eq_false h];simp
theorem ts_n3 {t:TS} (h : ¬t.counts.length=t.letters.length):tsB t=false:=by rw [tsB_trip,decide_eq_false h];simp
theorem ts_n4 {t:TS} (h:inR t.blanks 0 4=false):tsB t=false:=by rw [tsB_trip,h];simp
theorem ts_go {t:TS} (h:inR t.letters.length 1 26=true) (h2:t.values.length=t.letters.length) (h3:t.counts.length=t.letters.length) (h4:inR t.blanks 0 4=true):tsB t=(trK t 0&&decide (t.blanks+t.counts.sum≤120)):=by
 rw [tsB_trip,h,decide_eq_true h2,decide_eq_true h3,h4];rfl
theorem len_e {L:List Int} {s:List UInt8} (h:std.eqI (std.len L) (std.lenS s)=true):L.length=s.length:=by
 simp only [sd_eqI,sd_len,sd_lenS,beq_iff_eq] at h;omega
theorem len_n {L:List Int} {s:List UInt8} (h:std.eqI (std.len L) (std.lenS s)=false) : ¬L.length=s.length:=by
 simp only [sd_eqI,sd_len,sd_lenS,beq_eq_false_iff_ne,ne_eq] at h;omega
theorem in_bd {a b c:Int} (h:inR a b c=true):b≤a∧a≤c:=by simpa [inR] using h
structure TsL (t:TS):Prop where
 l:t.letters.length≤274877906944
 v:t.values.length≤274877906944
 c:t.counts.length≤274877906944
def sp_s_l02Ok (p:Pr):FSpec:=fsp (a1 (aP aTs)) (fun t=>TsL t) (fun t=>.b (tsB t))
theorem ok_s_l02Ok:FOk Tryz.prog 143 (sp_s_l02Ok std):=by
 refine FOk.go (c:=cx std [(78,sp_s_l00In std),(197,sp_s_l01Small std)] [] 0) (cx_ok (.cons ok_s_l00In (.cons ok_s_l01Small .nil)) .nil) mixed Tryz.func143 rfl rfl rfl (by kernel_rfl) ?_
 rintro t hp
 refine⟨rfl,?_⟩
 unfold sp_s_l00In sp_s_l01Small
 obtain⟨H,hH⟩ : ∃H:Hd (Int×Int),H=⟨fun (m,k)=>0≤k∧k≤t.letters.length∧m=t.blanks+(t.counts.take k.toNat).sum ∧0≤m∧m≤4+20*k∧tsB t=(trK t k&&decide (t.blanks+t.counts.sum≤120)),fun (m,k)=>(t.letters.length-k).toNat,(· < ·)⟩:=⟨_,rfl⟩
 have hl : ∀m n,H.lt m n→m<n:=by subst hH;exact fun _ _ h=>h
 generalize hP:std=p,hB0:tsB=B0,hB1:smallB=B1,hB2:inR=B2,hB3:u8=B3
 cbv
 repeat' first
  | (refine fun (_:Unit)=>?_;cbv)
  | (refine Or.inr ⟨44,[],[.s 4 (.i .i64),.s 5 (.i .i64)],[],[],H,rfl,hl,?_,fun ((m,k):Int×Int) hk=>?_⟩<;>cbv)
  | (refine aI2 (fun h=>?_) (fun h=>?_)<;>cbv)
  | (refine aI2 ?_ ?_)
 all_goals subst hP hB0 hB1 hB2 hB3 hH
 all_goals clear hl
 all_goals try dsimp only at hk
 all_goals try dsimp only
 all_goals try exact fin
 ·exact ts_n4 ‹_›
 ·have b4:=in_bd (show inR t.blanks 0 4=true by assumption)
  exact⟨Int.le_refl 0,Int.natCast_nonneg _,by simp,b4.1,b4.2,ts_go ‹_› (len_e ‹_›) (len_e ‹_›) ‹_›⟩
 all_goals try (have b1:=in_bd (show inR (t.letters.length:Int) 1 26=true by assumption))
 all_goals try (have b2:=len_e (L:=t.values) (s:=t.letters) ‹_›)
 all_goals try (have b3:=len_e (L:=t.counts) (s:=t.letters) ‹_›)
 all_goals try (obtain⟨q0,q1,q2,q3,q4,e⟩:=hk)
 all_goals try (have h1:k<t.letters.length:=lt_of ‹_›)
 all_goals try (have st:=tr_step b2 b3 q0 h1)
 all_goals try (have r0:=rise_0 (t:=t) q0 ‹_›)
 all_goals try (have r1:=rise_e (t:=t) (k:=k) ‹_› h1)
 all_goals try (have c1:=in_bd (show inR (std.get 0 t.counts k) 1 20=true by assumption))
 all_goals try (have c2:=sum_tk (L:=t.counts) q0 (by omega))
 ·exact in64 (by show _≤k-1∧k-1≤_;omega)
 ·exact tr_no e st (by rw [show inR (std.get 0 t.counts k) 1 20=false by assumption];simp)
 ·exact in64 (by show _≤m+std.get 0 t.counts k∧m+std.get 0 t.counts k≤_;omega)
 ·exact in64 (by show _≤k+1∧k+1≤_;omega)
 ·have g1:k+1≤(t.letters.length:Int):=by omega
  refine⟨by show 0≤k+1;omega,g1,by show m+std.get 0 t.counts k=t.blanks+(t.counts.take (k+1).toNat).sum;rw [c2];simp only [sd_get];omega,by show 0≤m+std.get 0 t.counts k;omega,by show m+std.get 0 t.counts k≤4+20*(k+1);omega,?_⟩
  rw [e,st,r1,show inR (std.byte t.letters k) 97 122=true by assumption,show std.leI (std.byte t.letters k) (std.byte t.letters (std.sub k 1))=false by assumption,show inR (std.get 0 t.values k) 0 20=true by assumption,show inR (std.get 0 t.counts k) 1 20=true by assumption]
  rfl
 ·exact tr_no e st (by rw [show inR (std.get 0 t.values k) 0 20=false by assumption];simp)
 ·exact tr_no e st (by rw [r1,show std.leI (std.byte t.letters k) (std.byte t.letters (std.sub k 1))=true by assumption];simp)
 ·exact tr_no e st (by rw [show inR (std.get 0 t.counts k) 1 20=false by assumption];simp)
 ·exact in64 (by show _≤m+std.get 0 t.counts k∧m+std.get 0 t.counts k≤_;omega)
 ·have g1:k+1≤(t.letters.length:Int):=by omega
  refine⟨by show 0≤k+1;omega,g1,by show m+std.get 0 t.counts k=t.blanks+(t.counts.take (k+1).toNat).sum;rw [c2];simp only [sd_get];omega,by show 0≤m+std.get 0 t.counts k;omega,by show m+std.get 0 t.counts k≤4+20*(k+1);omega,?_⟩
  rw [e,st,r0,show inR (std.byte t.letters k) 97 122=true by assumption,show inR (std.get 0 t.values k) 0 20=true by assumption,show inR (std.get 0 t.counts k) 1 20=true by assumption]
  rfl
 ·exact tr_no e st (by rw [show inR (std.get 0 t.values k) 0 20=false by assumption];simp)
 ·exact tr_no e st (by rw [show inR (std.byte t.letters k) 97 122=false by assumption];simp)
 ·have h2:(t.letters.length:Int)≤k:=ge_of ‹_›
  rw [e,q2,tk_all (by omega)]
  unfold trK
  rw [dn h2]
  rfl
 ·exact ts_n3 (len_n ‹_›)
 ·exact ts_n2 (len_n ‹_›)
 ·exact ts_n1 ‹_›
end Ax
namespace Ax
set_option maxRecDepth 100000
set_option maxHeartbeats 2000000
def suB (u:Su):Bool:=tsB u.ts&&(lexB u.lex&&(bdB u.bd&&((lettersS u.bd).isEmpty &&(inR u.secs 0 36000&&inR u.rule 0 3))))
structure SuL (u:Su):Prop where
 ts:TsL u.ts
 ws:WsP u.lex
 bd:BdP u.bd
def sp_s_l18Setup (p:Pr):FSpec:=fsp (a1 (aP aSu)) (fun u=>SuL u) (fun u=>.b (suB u))
theorem ok_s_l18Setup:FOk Tryz.prog 61 (sp_s_l18Setup std):=by
 refine FOk.go (c:=cx std [(143,sp_s_l02Ok std),(144,sp_s_l05Ok std),(131,sp_s_l11Ok std),(145,sp_s_l11Letters std),(78,sp_s_l00In std)] [] 0) (cx_ok (.cons ok_s_l02Ok (.cons ok_s_l05Ok (.cons ok_s_l11Ok (.cons ok_s_l11Letters (.cons ok_s_l00In .nil))))) .nil) mixed Tryz.func61 rfl rfl rfl (by kernel_rfl) ?_
 rintro u hp
 refine⟨rfl,?_⟩
 unfold sp_s_l02Ok sp_s_l05Ok sp_s_l11Ok sp_s_l11Letters sp_s_l00In
 generalize hP:std=p,hB0:suB=B0,hB1:tsB=B1,hB2:lexB=B2,hB3:bdB=B3,hB4:lettersS=B4,hB5:inR=B5
 cbv
 repeat' first
  | (refine fun (_:Unit)=>?_;cbv)
  | (refine aI2 (fun h=>?_) (fun h=>?_)<;>cbv)
  | (refine aI2 ?_ ?_)
  | (refine Or.inl (fun (_:Unit)=>?_);cbv)
 all_goals subst hP hB0 hB1 hB2 hB3 hB4 hB5
 all_goals try exact fin
 ·exact hp.bd
 ·exact hp.bd
 all_goals (unfold suB;simp [*] at *;try simp [*])
structure PkP (g:Gm):Prop where
 ts:TsOk g.ts
 rk2:g.racks.length=2
 ply:g.player=0∨g.player=1
 rk : ∀k,(g.rk k).length ≤7
 bf:BdP g.bef
 wd:g.last.play.word.length≤274877906944
 dr:g.last.drawn.length≤274877906944
def frN (g:Gm):Int:=std.len (frI (flatB g.bef g.last.play) (flatP g.last.play))
def bdE (a b:Bd):Bool:=std.and (std.eqI a.size b.size) (std.and (std.eqS a.prem b.prem) (std.eqS a.cells b.cells))
theorem pk_eq (g:Gm):playOk g=(std.eqI g.last.player (std.sub 1 g.player)&&(okB g.bef g.last.play&&(inR g.last.zeros 0 5&&(std.eqI g.zeros 0&&(bagB g.last.drawn&&(takeB (std.get [] g.racks g.last.player) (isort g.last.drawn)&&(std.leI (frN g) 7&&(std.leI (std.lenS g.last.drawn) (frN g)&&(std.leI (std.add (std.sub (std.lenS (std.get [] g.racks g.last.player)) (std.lenS g.last.drawn)) (frN g)) 7&&(bdE (madeS g.bef g.last.play) g.bd&&(std.eqI g.last.score (scoreV g.ts g.bef g.last.play)&&std.leI g.last.score 20000))))))))))):=by
 unfold playOk frN
 rw [sd_len,fr_n]
 congr 6
 congr 1
 ·rw [sd_leI,Bool.eq_iff_iff,decide_eq_true_eq,decide_eq_true_eq];omega
 congr 1
 rw [sd_leI,sd_lenS,Bool.eq_iff_iff,decide_eq_true_eq,decide_eq_true_eq];omega
structure PlayF (g:Gm):Prop where
 ply:std.inL g.last.player (std.len g.racks)
 pl:PlP g.bef g.last.play
 fr:(frI (flatB g.bef g.last.play) (flatP g.last.play)).length ≤15
 dr:g.last.drawn.length≤120
 rk:(g.rk g.last.player).length ≤7
 so:(isort g.last.drawn).length ≤120
theorem pk_ply {g:Gm} (hp:PkP g) (h1:std.eqI g.last.player (std.sub 1 g.player)=true):std.inL g.last.player (std.len g.racks):=by
 have h2:=hp.rk2
 have h3:g.last.player=1-g.player:=by simpa using h1
 refine⟨?_,?_⟩
 ·rcases hp.ply with h | h<;>omega
 ·show g.last.player<(g.racks.length:Int)
  rcases hp.ply with h | h<;>omega
theorem bag_len {s:List UInt8} (h:bagB s=true):s.length≤120:=by
 unfold bagB at h
 simp only [Bool.and_eq_true,decide_eq_true_eq] at h
 exact h.2
theorem pk_f {g:Gm} (hp:PkP g) (h1:std.eqI g.last.player (std.sub 1 g.player)=true) (h2:okB g.bef g.last.play=true) (h3:bagB g.last.drawn=true):PlayF g:=by
 have h4:=okB_on h2
 have h5:=frI_len (flatB g.bef g.last.play) (flatP g.last.play)
 have h6:=h4.on.len
 exact⟨pk_ply hp h1,h4,by omega,bag_len h3,hp.rk _,by rw [isort_length];exact bag_len h3⟩
def sp_s_l18PlayOk (p:Pr):FSpec:=fsp (a1 (aP aGm)) (fun g=>PkP g) (fun g=>.b (playOk g))
theorem ok_s_l18PlayOk:FOk Tryz.prog 219 (sp_s_l18PlayOk std):=by
 refine FOk.go (c:=cx std [(251,sp_s_l18Board std),(252,sp_s_l12Ok std),(78,sp_s_l00In std),(62,sp_s_l17Ok std),(253,sp_s_l12Flat std),(254,sp_s_l12Fresh std),(171,sp_s_l03Take std),(63,sp_s_l03Sort std),(255,sp_s_l12Make std),(256,sp_s_l13Score std)] [] 0) (cx_ok (.cons ok_s_l18Board (.cons ok_s_l12Ok (.cons ok_s_l00In (.cons ok_s_l17Ok (.cons ok_s_l12Flat (.cons ok_s_l12Fresh (.cons ok_s_l03Take (.cons ok_s_l03Sort (.cons ok_s_l12Make (.cons ok_s_l13Score .nil)))))))))) .nil) mixed Tryz.func219 rfl rfl rfl (by kernel_rfl) ?_
 rintro g hp
 refine⟨rfl,?_⟩
 unfold sp_s_l18Board sp_s_l12Ok sp_s_l00In sp_s_l17Ok sp_s_l12Flat sp_s_l12Fresh sp_s_l03Take sp_s_l03Sort sp_s_l12Make sp_s_l13Score
 generalize hP:std=p,hB0:playOk=B0,hB1:okB=B1,hB2:flatB=B2,hB3:flatP=B3,hB4:frI=B4,hB5:takeB=B5,hB6:takeS=B6,hB7:isort=B7,hB8:bagB=B8,hB9:madeS=B9,hB10:scoreV=B10,hB11:inR=B11
 cbv
 repeat' first
  | (refine fun (_:Unit)=>?_;cbv)
  | (refine aI2 (fun h=>?_) (fun h=>?_)<;>cbv)
  | (refine aI2 ?_ ?_)
  | (refine Or.inl (fun (_:Unit)=>?_);cbv)
 all_goals subst hP hB0 hB1 hB2 hB3 hB4 hB5 hB6 hB7 hB8 hB9 hB10 hB11
 all_goals try exact fin
 ·exact in64 (by show _≤1-g.player∧1-g.player≤_;rcases hp.ply with h | h<;>omega)
 ·exact⟨hp.bf,hp.wd⟩
 ·exact ltM_of hp.dr
 ·rw [pk_eq,show bagB g.last.drawn=false by assumption];simp
 all_goals try (have F:=pk_f hp ‹_› ‹_› ‹_›)
 ·exact F.pl.fit
 ·exact F.pl.on
 ·exact F.ply
 ·exact ltM_of hp.dr
 ·exact ltM_of (n:=(g.rk g.last.player).length) (Nat.le_trans F.rk (by decide))
 ·exact ltM_of (Nat.le_trans F.so (by decide))
 ·exact F.ply
 ·have a1:=F.rk
  have a2:=F.dr
  exact in64 (by show _≤((g.rk g.last.player).length : Int)-g.last.drawn.length∧((g.rk g.last.player).length : Int)-g.last.drawn.length≤_;omega)
 ·have a1:=F.rk
  have a2:=F.dr
  have a3:=F.fr
  exact in64 (by show _≤((g.rk g.last.player).length : Int)-g.last.drawn.length+(frI (flatB g.bef g.last.play) (flatP g.last.play)).length ∧((g.rk g.last.player).length : Int)-g.last.drawn.length+(frI (flatB g.bef g.last.play) (flatP g.last.play)).length ≤_;omega)
 ·exact F.pl
 ·exact⟨hp.ts,F.pl⟩
 all_goals (clear hp;try clear F)
 all_goals (rw [pk_eq];unfold frN bdE;try simp only [Bool.not_true,Bool.not_false] at *)
 all_goals first
  | (rw [show std.eqI g.last.player (std.sub 1 g.player)=false by assumption];rfl)
  | rw [show std.eqI g.last.player (std.sub 1 g.player)=true by assumption,Bool.true_and]
 all_goals first
  | (rw [show okB g.bef g.last.play=false by assumption];rfl)
  | rw [show okB g.bef g.last.play=true by assumption,Bool.true_and]
 all_goals first
  | (rw [show inR g.last.zeros 0 5=false by assumption];rfl)
  | rw [show inR g.last.zeros 0 5=true by assumption,Bool.true_and]
 all_goals try (show std.leI g.last.score 20000=_)
 all_goals (try unfold Gm.bef;try simp only [eta_bd,eta_pl] at *;generalize (⟨g.bd.size,g.bd.prem,g.last.before⟩:Bd)=bf at *)
 all_goals
  (generalize std.eqI g.zeros 0=b1 at *
   generalize bagB g.last.drawn=b2 at *
   generalize takeB (std.get [] g.racks g.last.player) (isort g.last.drawn)=b3 at *
   generalize std.leI (std.len (frI (flatB bf g.last.play) (flatP g.last.play))) 7=b4 at *
   generalize std.leI (std.lenS g.last.drawn) (std.len (frI (flatB bf g.last.play) (flatP g.last.play)))=b5 at *
   generalize std.leI (std.add (std.sub (std.lenS (std.get [] g.racks g.last.player)) (std.lenS g.last.drawn)) (std.len (frI (flatB bf g.last.play) (flatP g.last.play)))) 7=b6 at *
   generalize std.and (std.eqI (madeS bf g.last.play).size g.bd.size) (std.and (std.eqS (madeS bf g.last.play).prem g.bd.prem) (std.eqS (madeS bf g.last.play).cells g.bd.cells))=b7 at *
   generalize std.eqI g.last.score (scoreV g.ts bf g.last.play)=b8 at *
   generalize std.leI g.last.score 20000=b9 at *)
 all_goals (simp_all)
end Ax
namespace Ax
set_option maxRecDepth 100000
set_option maxHeartbeats 2000000
section
variable {b:Bd} {q:Pl} {i:Nat}
theorem words_same (hb:bdB b=true) (hon:OnQ b q) (hw:lettB q.word=true):wordsL b q=wordsI b q:=by
 unfold wordsL wordsI formedL crossW crossP sqL
 rw [fresh_new hb hon,flatP_word,List.map_cons]
 congr 1
 have hlt : ∀x∈newL b q,x<q.word.length:=fun x hx=>List.mem_range.1 (List.mem_filter.1 hx).1
 generalize newL b q=N at hlt
 unfold keepL
 induction N with
 | nil=>rfl
 | cons x N ih=>
   have ih:=ih fun y hy=>hlt y (List.mem_cons_of_mem _ hy)
   have hx:=cross_seq hb hon (hlt x (List.mem_cons_self ..)) hw
   have hlen:(crossAt (flatB b q) (flatP q) x).length =(seqL (madeB b q) (!q.down) (q.sr x) (q.sc x)).length :=by rw [hx];simp [sqW]
   simp only [List.map_cons,List.filter_cons,hlen]
   by_cases h2:2≤(seqL (madeB b q) (!q.down) (q.sr x) (q.sc x)).length
   ·rw [if_pos (by simp;omega),if_pos (by simpa using h2),List.map_cons,List.map_cons,ih,hx]
   ·rw [if_neg (by simp;omega),if_neg (by simpa using h2),ih]
theorem formed_wds {b:Bd} {q:Pl} (hb:bdB b=true) (hon:OnQ b q) (hw:lettB q.word=true):(formedL (flatB b q) (flatP q)).length =(wordsI b q).length :=by
 rw [←words_same hb hon hw,wordsL,List.length_map]
theorem empty_new {b:Bd} (hb:bdB b=true) {q:Pl} (hon:OnQ b q) (h:lettersS b=[]):newL b q=List.range q.word.length:=by
 unfold newL newTo
 rw [List.filter_eq_self]
 intro i hi
 have hin:=hon i (List.mem_range.1 hi)
 have hm:=at_mem (bdB.fit hb) hin
 unfold lettersS at h
 rw [List.filter_eq_nil_iff] at h
 have:=h _ hm
 unfold Bd.let_
 rw [cell_in hin]
 simp at this
 simp [this]
theorem touch_same {b:Bd} (hb:bdB b=true) {q:Pl} (hv:validI b q=true):touchB b q=touchI b q:=by
 obtain⟨hon,hw,h2,h12⟩:=validI_facts hv
 unfold touchB touchI
 by_cases h:lettersS b=[]
 ·rw [if_pos h,h,if_pos (by rfl),empty_new hb hon h]
  rw [Bool.eq_iff_iff,List.any_eq_true]
  simp only [Bool.and_eq_true,decide_eq_true_eq]
  unfold flatP Pl.tr sqL Pl.sr Pl.sc
  constructor
  ·rintro ⟨h3,h4,h5⟩
   cases hd:q.down
   ·simp only [hd,Bool.false_eq_true,if_false] at h3 h4 h5 ⊢
    refine⟨_,List.mem_map.2 ⟨(b.size/2-q.col).toNat,List.mem_range.2 (by omega),rfl⟩,?_⟩
    rw [beq_iff_eq,Prod.mk.injEq]
    omega
   ·simp only [hd,if_true] at h3 h4 h5 ⊢
    refine⟨_,List.mem_map.2 ⟨(b.size/2-q.row).toNat,List.mem_range.2 (by omega),rfl⟩,?_⟩
    rw [beq_iff_eq,Prod.mk.injEq]
    omega
  ·rintro ⟨x,hx,he⟩
   obtain⟨i,hi,rfl⟩:=List.mem_map.1 hx
   have hi:=List.mem_range.1 hi
   rw [beq_iff_eq,Prod.mk.injEq] at he
   cases hd:q.down<;>simp only [hd,Bool.false_eq_true,if_false,if_true] at he ⊢ <;>omega
 ·have h':(lettersS b).isEmpty =false:=by rw [Bool.eq_false_iff];intro e;exact h (List.isEmpty_iff.1 e)
  rw [if_neg h,h',if_neg (by decide),fresh_new hb hon,formed_wds hb hon hw]
theorem legal_same {b:Bd} (hb:bdB b=true) (lex:List Str) {rack:Str} (hr:rackB rack=true) (q:Pl):legalC b lex rack q=codeI b lex rack q:=by
 unfold legalC codeI
 rw [okB_validI hb]
 cases hv:validI b q
 ·rfl
 ·obtain⟨hon,hw,h2,h12⟩:=validI_facts hv
  rw [placed_new hb hon,take_less hr (placedI_lett hw),touch_same hb hv]
  unfold doubleB wrongL wrongS
  rw [fresh_new hb hon,formed_wds hb hon hw,words_same hb hon hw]
end
end Ax
namespace Ax
set_option maxRecDepth 100000
set_option maxHeartbeats 2000000
theorem vcB_sum : ∀(vs cs:List Int),vs.length=cs.length→vcB vs cs=true→(∀c∈cs,1≤c∧c≤20)∧∀v∈vs,0≤v∧v≤20
 | [],[],_,_=>⟨fun _ h=>(by cases h),fun _ h=>(by cases h)⟩
 | [],_::_,h,_=>by simp at h
 | _::_,[],h,_=>by simp at h
 | v::vs,c::cs,h,hb=>by
   rw [vcB] at hb
   simp only [Bool.and_eq_true,inR,decide_eq_true_eq] at hb
   obtain⟨h1,h2⟩:=vcB_sum vs cs (by simpa using h) hb.2.2
   refine⟨fun x hx=>?_,fun x hx=>?_⟩
   ·rcases List.mem_cons.1 hx with e | hx
    ·subst e;exact hb.2.1
    ·exact h1 x hx
   ·rcases List.mem_cons.1 hx with e | hx
    ·subst e;exact hb.1
    ·exact h2 x hx
theorem tsB_ok {t:TS} (h:tsB t=true):TsOk t:=by
 unfold tsB at h
 simp only [Bool.and_eq_true,decide_eq_true_eq] at h
 obtain⟨h1,h2,h3,h4,h5,h6,h7⟩:=h
 have hb:=vcB_sum t.values t.counts (by omega) h6
 have key : ∀c,0≤valT t c∧valT t c≤20:=fun c=>by
  unfold valT
  split
  ·rename_i hk
   have hk':findK t.letters c<t.values.length:=by omega
   rw [List.getD_eq_getElem?_getD,List.getElem?_eq_getElem hk']
   exact hb.2 _ (List.getElem_mem hk')
  ·omega
 exact⟨smFrom_26 h2,h3,h4,fun c=>(key c).1,fun c=>(key c).2⟩
theorem tsB_all {t:TS} (h:tsB t=true):AllP t∧0≤t.blanks∧∀k:Nat,0≤t.counts.getD k 0:=by
 have ho:=tsB_ok h
 unfold tsB at h
 simp only [Bool.and_eq_true,decide_eq_true_eq] at h
 obtain⟨h1,h2,h3,h4,h5,h6,h7⟩:=h
 have hb:=(vcB_sum t.values t.counts (by omega) h6).1
 have hk : ∀k:Nat,0≤t.counts.getD k 0∧t.counts.getD k 0≤20:=fun k=>by
  rw [List.getD_eq_getElem?_getD]
  rcases Nat.lt_or_ge k t.counts.length with h | h
  ·rw [List.getElem?_eq_getElem h]
   have:=hb _ (List.getElem_mem h)
   show 0≤t.counts[k]∧t.counts[k]≤20
   omega
  ·rw [List.getElem?_eq_none h];decide
 have h5:=in_bd h5
 exact⟨⟨ho,h5.2,fun k=>(hk k).2⟩,h5.1,fun k=>(hk k).1⟩
theorem eqI_t {a b:Int} (h:std.eqI a b=true):a=b:=by simpa using h
theorem eqI_f {a b:Int} (h:std.eqI a b=false) : ¬a=b:=by simpa using h
theorem len2 {α:Type} (L:List α):std.eqI (std.len L) 2=decide (L.length=2):=by
 show decide ((L.length:Int)=2)=_
 rw [Bool.eq_iff_iff,decide_eq_true_eq,decide_eq_true_eq];omega
theorem shapeE (g:Gm):shapeB g=(suB ⟨⟨g.ts.letters,g.ts.values,g.ts.counts,g.ts.blanks⟩,g.lex,⟨g.bd0.size,g.bd0.prem,g.bd0.cells⟩,g.secs,g.rule⟩&&(bdB ⟨g.bd.size,g.bd.prem,g.bd.cells⟩&&(std.eqI g.bd.size g.bd0.size&&(std.eqS g.bd.prem g.bd0.prem&&bagB g.bag)))):=rfl
theorem twoE (g:Gm):twoB g=(std.eqI (std.len g.racks) 2&&(std.eqI (std.len g.scores) 2&&(std.eqI (std.len g.clocks) 2&&(inR g.player 0 1&&inR g.zeros 0 6)))):=by
 rw [len2,len2,len2];rfl
theorem z_full {z:Int} (h:std.eqI z 6=true):decide (z<6)=false:=by
 have : z=6:=by simpa using h
 subst this;rfl
theorem z_less {z:Int} (h0:inR z 0 6=true) (h:std.eqI z 6=false):decide (z<6)=true:=by
 have h1 : ¬z=6:=by simpa using h
 have h2:=in_bd h0
 rw [decide_eq_true_eq];omega
theorem side_n1 {g:Gm} {k:Int} (h:rackB (g.racks.getD k.toNat [])=false):sideB g k.toNat=false:=by unfold sideB;rw [h];rfl
theorem side_n2 {g:Gm} {k:Int} (_:0≤k) (h:inR (g.scores.getD k.toNat 0) (-100000) 100000=false):sideB g k.toNat=false:=by unfold sideB;rw [h];simp
theorem side_n3 {g:Gm} {k:Int} (_:0≤k) (h:inR (g.clocks.getD k.toNat 0) (-36000) 36000=false):sideB g k.toNat=false:=by unfold sideB;rw [h];simp
theorem side_suc {g:Gm} {k:Int} (h0:0≤k) (h1:k<2) (q2:0<k→sideB g 0=true) (_:1<k→sideB g 1=true) (a:rackB (g.racks.getD k.toNat [])=true) (b:inR (g.scores.getD k.toNat 0) (-100000) 100000=true) (c:inR (g.clocks.getD k.toNat 0) (-36000) 36000=true) :
 0≤k+1∧k+1≤2∧(0<k+1→sideB g 0=true)∧(1<k+1→sideB g 1=true):=by
 have hs:sideB g k.toNat=true:=by unfold sideB;rw [a,b,c];rfl
 have : k=0∨k=1:=by omega
 rcases this with rfl | rfl
 ·exact⟨by omega,by omega,fun _=>hs,fun h=>absurd h (by decide)⟩
 ·exact⟨by omega,by omega,fun _=>q2 (by omega),fun _=>hs⟩
theorem rack_len {s:List UInt8} (h:rackB s=true):s.length≤7:=by
 unfold rackB at h
 rw [Bool.and_eq_true,decide_eq_true_eq] at h
 exact h.2
theorem lettersS_len (b:Bd) (h:b.Fit):(lettersS b).length ≤225:=by
 have h1:=List.length_filter_le (fun c:UInt8=>!(c==46)) b.cells
 have h2:=h.cells;have h3:=h.hi;have h4:=h.lo
 have h5:b.size*b.size≤15*b.size:=Int.mul_le_mul_of_nonneg_right h3 (by omega)
 unfold lettersS;omega
end Ax
namespace Ax
set_option maxRecDepth 100000
set_option maxHeartbeats 2000000
def sp_s_l18LastOk (p:Pr):FSpec:=fsp (a1 (aP aGm)) (fun g=>PkP g) (fun g=>.b (lastOk g))
theorem ok_s_l18LastOk:FOk Tryz.prog 159 (sp_s_l18LastOk std):=by
 refine FOk.go (c:=cx std [(219,sp_s_l18PlayOk std),(78,sp_s_l00In std)] [] 0) (cx_ok (.cons ok_s_l18PlayOk (.cons ok_s_l00In .nil)) .nil) mixed Tryz.func159 rfl rfl rfl (by kernel_rfl) ?_
 rintro g hp
 refine⟨rfl,?_⟩
 unfold sp_s_l18PlayOk sp_s_l00In
 generalize hP:std=p,hB0:lastOk=B0,hB1:playOk=B1,hB2:inR=B2
 cbv
 repeat' first
  | (refine fun (_:Unit)=>?_;cbv)
  | (refine aI2 (fun h=>?_) (fun h=>?_)<;>cbv)
  | (refine aI2 ?_ ?_)
  | (refine Or.inl (fun (_:Unit)=>?_);cbv)
 all_goals subst hP hB0 hB1 hB2
 all_goals try exact fin
 all_goals try (have hb:eqLa g.last (idleL g.last.kind g.last.player)=true:=‹_›)
 all_goals try (have hn:eqLa g.last (idleL g.last.kind g.last.player)=false:=‹_›)
 ·have k0:g.last.kind=0:=eqI_t ‹_›
  unfold lastOk
  rw [k0] at hb
  rw [if_pos k0,hb];rfl
 ·have k0:g.last.kind=0:=eqI_t ‹_›
  unfold lastOk
  rw [k0] at hn
  rw [if_pos k0,hn];rfl
 ·have k0 : ¬g.last.kind=0:=eqI_f ‹_›
  have k2:g.last.kind=2:=eqI_t ‹_›
  unfold lastOk
  rw [if_neg k0,if_pos (Or.inl k2),hb];rfl
 ·have k0 : ¬g.last.kind=0:=eqI_f ‹_›
  have k2:g.last.kind=2:=eqI_t ‹_›
  unfold lastOk
  rw [if_neg k0,if_pos (Or.inl k2),hn];rfl
 ·have k0 : ¬g.last.kind=0:=eqI_f ‹_›
  have k2:g.last.kind=3:=eqI_t ‹_›
  unfold lastOk
  rw [if_neg k0,if_pos (Or.inr k2),hb];rfl
 ·have k0 : ¬g.last.kind=0:=eqI_f ‹_›
  have k2:g.last.kind=3:=eqI_t ‹_›
  unfold lastOk
  rw [if_neg k0,if_pos (Or.inr k2),hn];rfl
 all_goals have k0 : ¬g.last.kind=0:=eqI_f ‹_›
 all_goals have k2 : ¬g.last.kind=2:=eqI_f ‹_›
 all_goals have k3 : ¬g.last.kind=3:=eqI_f ‹_›
 all_goals unfold lastOk
 all_goals rw [if_neg k0,if_neg (by rintro (h | h);exact k2 h;exact k3 h)]
 ·rw [if_pos (eqI_t ‹_›)]
 ·rw [if_neg (eqI_f ‹_›)]
structure GmL (g:Gm):Prop where
 su:SuL (gSu g)
 bd:BdP g.bd
 bag:g.bag.length≤274877906944
 rk : ∀k:Int,(g.rk k).length ≤274877906944
 bf:BdP g.bef
 wd:g.last.play.word.length≤274877906944
 dr:g.last.drawn.length≤274877906944
theorem s_shape {g:Gm} (h:shapeB g=false):gameB g=false:=by unfold gameB;rw [h];rfl
theorem s_two {g:Gm} (h:twoB g=false):gameB g=false:=by unfold gameB;rw [h];simp
theorem s_side {g:Gm} {k:Int} (h0:0≤k) (h1:k<2) (h:sideB g k.toNat=false):gameB g=false:=by
 have : k=0∨k=1:=by omega
 rcases this with rfl | rfl
 ·have h:sideB g 0=false:=h
  unfold gameB;rw [h];simp
 ·have h:sideB g 1=false:=h
  unfold gameB;rw [h];simp
theorem s_end {g:Gm} (h1:shapeB g=true) (h2:twoB g=true) (h3:sideB g 0=true) (h4:sideB g 1=true):gameB g=(gameTiles g==allT g.ts&&(lastOk g&&(g.over||decide (g.zeros<6)))):=by
 unfold gameB
 rw [h1,h2,h3,h4];rfl
structure GmS (g:Gm):Prop where
 fit:g.bd.Fit
 ts:tsB g.ts=true
 rk : ∀k:Int,(g.rk k).length ≤7
 r2:g.racks.length=2
 ply:g.player=0∨g.player=1
 bag:g.bag.length≤120
theorem gm_s {g:Gm} (h1:shapeB g=true) (h2:twoB g=true) (h3:sideB g 0=true) (h4:sideB g 1=true):GmS g:=by
 unfold shapeB setupB at h1
 unfold twoB at h2
 unfold sideB at h3 h4
 simp only [Bool.and_eq_true,decide_eq_true_eq] at h1 h2 h3 h4
 have hp:=in_bd h2.2.2.2.1
 refine⟨bdB.fit h1.2.1,h1.1.1,fun k=>?_,h2.1,by omega,bag_len h1.2.2.2.2⟩
 unfold Gm.rk
 rcases (show k.toNat=0∨k.toNat=1∨2≤k.toNat by omega) with h | h | h
 ·rw [h];exact rack_len h3.1
 ·rw [h];exact rack_len h4.1
 ·rw [List.getD_eq_getElem?_getD,List.getElem?_eq_none (by omega)];decide
theorem pkp_of {g:Gm} (hp:GmL g) (h:GmS g):PkP g:=⟨tsB_ok h.ts,h.r2,h.ply,h.rk,hp.bf,hp.wd,hp.dr⟩
def sp_s_l18Ok (p:Pr):FSpec:=fsp (a1 (aP aGm)) (fun g=>GmL g) (fun g=>.b (gameB g))
theorem ok_s_l18Ok:FOk Tryz.prog 77 (sp_s_l18Ok std):=by
 refine FOk.go (c:=cx std [(61,sp_s_l18Setup std),(131,sp_s_l11Ok std),(62,sp_s_l17Ok std),(78,sp_s_l00In std),(157,sp_s_l03Rack std),(145,sp_s_l11Letters std),(158,sp_s_l03Tiles std),(63,sp_s_l03Sort std),(54,sp_s_l02All std),(159,sp_s_l18LastOk std)] [] 0) (cx_ok (.cons ok_s_l18Setup (.cons ok_s_l11Ok (.cons ok_s_l17Ok (.cons ok_s_l00In (.cons ok_s_l03Rack (.cons ok_s_l11Letters (.cons ok_s_l03Tiles (.cons ok_s_l03Sort (.cons ok_s_l02All (.cons ok_s_l18LastOk .nil)))))))))) .nil) mixed Tryz.func77 rfl rfl rfl (by kernel_rfl) ?_
 rintro g hp
 refine⟨rfl,?_⟩
 unfold sp_s_l18Setup sp_s_l11Ok sp_s_l17Ok sp_s_l00In sp_s_l03Rack sp_s_l11Letters sp_s_l03Tiles sp_s_l03Sort sp_s_l02All sp_s_l18LastOk
 obtain⟨H,hH⟩ : ∃H:Hd (Int),H=⟨fun k=>0≤k∧k≤2∧(0<k→sideB g 0=true)∧(1<k→sideB g 1=true),fun k=>(2-k).toNat,(· < ·)⟩:=⟨_,rfl⟩
 have hl : ∀m n,H.lt m n→m<n:=by subst hH;exact fun _ _ h=>h
 generalize hP:std=p,hB0:gameB=B0,hB1:suB=B1,hB2:bdB=B2,hB3:bagB=B3,hB4:rackB=B4,hB5:inR=B5,hB6:lettersS=B6,hB7:tilesS=B7,hB8:isort=B8,hB9:allT=B9,hB10:lastOk=B10
 cbv
 repeat' first
  | (refine fun (_:Unit)=>?_;cbv)
  | (refine Or.inr ⟨90,[],[.s 3 (.i .i64)],[],[],H,rfl,hl,?_,fun (k:Int) hk=>?_⟩<;>cbv)
  | (refine aI2 (fun h=>?_) (fun h=>?_)<;>cbv)
  | (refine aI2 ?_ ?_)
 all_goals subst hP hB0 hB1 hB2 hB3 hB4 hB5 hB6 hB7 hB8 hB9 hB10 hH
 all_goals clear hl
 all_goals try dsimp only at hk
 all_goals try dsimp only
 all_goals try exact fin
 all_goals try (have hs:shapeB g=true:=by rw [shapeE];simp only [*,Bool.not_false,Bool.true_and,Bool.and_true])
 all_goals try (have htw:twoB g=true:=by rw [twoE];simp only [*,Bool.not_false,Bool.true_and,Bool.and_true])
 all_goals try (obtain⟨q0,q1,q2,q3⟩:=hk)
 all_goals try (have hlt:k<2:=lt_of ‹_›)
 all_goals try (have hge:2≤k:=ge_of ‹_›)
 all_goals try (have hsd0:=q2 (by omega);have hsd1:=q3 (by omega))
 all_goals try (have hS:=gm_s hs htw hsd0 hsd1;have hl:=lettersS_len g.bd hS.fit;have htl:=tilesS_len (lettersS g.bd);have hr0:=hS.rk 0;have hr1:=hS.rk 1;have hbg:=hS.bag)
 all_goals try (have hlo:lastOk g=true:=‹_›)
 all_goals try (have hlf:lastOk g=false:=‹_›)
 all_goals first
  | exact hp.su
  | exact ltM_of hp.bag
  | exact ltM_of (hp.rk k)
  | exact⟨Int.le_refl 0,by decide,fun h=>absurd h (by decide),fun h=>absurd h (by decide)⟩
  | (refine s_shape ?_;rw [shapeE];simp only [*,Bool.not_false,Bool.true_and,Bool.false_and];done)
  | (refine s_two ?_;rw [twoE];simp only [*,Bool.not_false,Bool.true_and,Bool.false_and,Bool.and_false];done)
  | exact s_side q0 hlt (side_n1 ‹_›)
  | exact s_side q0 hlt (side_n2 q0 ‹_›)
  | exact s_side q0 hlt (side_n3 q0 ‹_›)
  | exact side_suc q0 hlt q2 q3 ‹_› ‹_› ‹_›
  | exact (tsB_all hS.ts).1
  | exact pkp_of hp hS
  | exact ltM_of (n:=(lettersS g.bd).length) (by omega)
  | exact in64 (by show _≤((tilesS (lettersS g.bd)).length : Int)+((g.rk 0).length : Int)∧((tilesS (lettersS g.bd)).length : Int)+((g.rk 0).length : Int)≤_;omega)
  | exact in64 (by show _≤((tilesS (lettersS g.bd)++g.rk 0).length : Int)+((g.rk 1).length : Int)∧((tilesS (lettersS g.bd)++g.rk 0).length : Int)+((g.rk 1).length : Int)≤_;rw [List.length_append];omega)
  | exact in64 (by show _≤(((tilesS (lettersS g.bd)++g.rk 0)++g.rk 1).length : Int)+(g.bag.length:Int)∧(((tilesS (lettersS g.bd)++g.rk 0)++g.rk 1).length : Int)+(g.bag.length:Int)≤_;rw [List.length_append,List.length_append];omega)
  | exact ltM_of (n:=(((tilesS (lettersS g.bd)++g.rk 0)++g.rk 1)++g.bag).length) (by rw [List.length_append,List.length_append,List.length_append];omega)
  | (rw [s_end hs htw hsd0 hsd1,show (gameTiles g==allT g.ts)=false by assumption];rfl)
  | (rw [s_end hs htw hsd0 hsd1,show (gameTiles g==allT g.ts)=true by assumption,hlf];rfl)
  | (rw [s_end hs htw hsd0 hsd1,show (gameTiles g==allT g.ts)=true by assumption,hlo,show g.over=true by assumption];rfl)
  | (rw [s_end hs htw hsd0 hsd1,show (gameTiles g==allT g.ts)=true by assumption,hlo,show g.over=false by assumption];rfl)
  | skip
end Ax
namespace Ax
set_option maxRecDepth 100000
set_option maxHeartbeats 2000000
structure SaF (g:Gm):Prop where
 s:g.scores.length=2
 k:g.clocks.length=2
 ply:0≤g.player∧g.player≤1
 clk : -36000≤g.clk g.player∧g.clk g.player≤36000
theorem sa_facts {g:Gm} (h:gameB g=true):SaF g:=by
 unfold gameB twoB sideB at h
 simp only [Bool.and_eq_true,decide_eq_true_eq] at h
 have hp:=in_bd h.2.1.2.2.2.1
 have k0:=in_bd h.2.2.1.1.2.2
 have k1:=in_bd h.2.2.1.2.2.2
 refine⟨h.2.1.2.1,h.2.1.2.2.1,hp,?_⟩
 unfold Gm.clk
 rcases (show g.player.toNat=0∨g.player.toNat=1 by omega) with e | e<;>rw [e]
 ·exact k0
 ·exact k1
theorem sa_over {g:Gm} {n:Int} (h:gameB g=true) (ho:g.over=true):actC g n=10:=by
 unfold actC;rw [if_pos h,if_pos ho]
theorem sa_2a {g:Gm} {n:Int} (h:gameB g=true) (ho:g.over=false) (hn:inR n 0 36000=false):actC g n=2:=by
 unfold actC;rw [if_pos h,if_neg (by rw [ho];simp),hn,if_neg (by simp)]
theorem sa_2b {g:Gm} {n:Int} (h:gameB g=true) (ho:g.over=false) (hn:std.ltI (g.clk g.player-n) (-36000)=true):actC g n=2:=by
 have h1:=lt_of hn
 unfold actC;rw [if_pos h,if_neg (by rw [ho];simp),decide_eq_false (by omega),Bool.and_false,if_neg (by simp)]
theorem sa_go {g:Gm} {n:Int} (h:gameB g=true) (ho:g.over=false) (hi:inR n 0 36000=true) (hn:std.ltI (g.clk g.player-n) (-36000)=false):actC g n=if inR (g.sc 0) (-50000) 50000&&inR (g.sc 1) (-50000) 50000 then 0 else 5:=by
 have h1:=ge_of hn
 unfold actC;rw [if_pos h,if_neg (by rw [ho];simp),hi,decide_eq_true (by omega)];rfl
def sp_s_l18Begin (p:Pr):FSpec:=fsp (ac (aP aGm) (a1 aI)) (fun (g,n)=>GmL g) (fun (g,n)=>.i .i64 (actC g n))
theorem ok_s_l18Begin:FOk Tryz.prog 94 (sp_s_l18Begin std):=by
 refine FOk.go (c:=cx std [(77,sp_s_l18Ok std),(78,sp_s_l00In std),(170,sp_s_l18Points std)] [] 0) (cx_ok (.cons ok_s_l18Ok (.cons ok_s_l00In (.cons ok_s_l18Points .nil))) .nil) mixed Tryz.func94 rfl rfl rfl (by kernel_rfl) ?_
 rintro ⟨g,n⟩ hp
 dsimp only at hp
 refine⟨rfl,?_⟩
 unfold sp_s_l18Ok sp_s_l00In sp_s_l18Points
 generalize hP:std=p,hB0:actC=B0,hB1:gameB=B1,hB2:inR=B2
 cbv
 repeat' first
  | (refine fun (_:Unit)=>?_;cbv)
  | (refine aI2 (fun h=>?_) (fun h=>?_)<;>cbv)
  | (refine aI2 ?_ ?_)
  | (refine Or.inl (fun (_:Unit)=>?_);cbv)
 all_goals subst hP hB0 hB1 hB2
 all_goals try exact fin
 all_goals try (have hf:=sa_facts (show gameB g=true by assumption);have hpl:=hf.ply;have hck:=hf.clk;have hkl:=hf.k;have hsl:=hf.s)
 all_goals try (have hn:=in_bd (show inR n 0 36000=true by assumption))
 all_goals first
  | exact⟨hpl.1,by show g.player<(g.clocks.length:Int);omega⟩
  | exact⟨by decide,by show (0:Int)<(g.scores.length:Int);omega⟩
  | exact⟨by decide,by show (1:Int)<(g.scores.length:Int);omega⟩
  | exact in64 (by show _≤g.clk g.player-n∧g.clk g.player-n≤_;omega)
  | (unfold actC;rw [if_neg (by rw [show gameB g=false by assumption];simp)];done)
  | (rw [sa_over ‹_› ‹_›];done)
  | (rw [sa_2b ‹_› ‹_› ‹_›];done)
  | (rw [sa_2a ‹_› ‹_› ‹_›];done)
  | (rw [sa_go ‹_› ‹_› ‹_› ‹_›,show inR (g.sc 0) (-50000) 50000=true by assumption,show inR (g.sc 1) (-50000) 50000=true by assumption];rfl)
  | (rw [sa_go ‹_› ‹_› ‹_› ‹_›,show inR (g.sc 0) (-50000) 50000=false by assumption];rfl)
  | (rw [sa_go ‹_› ‹_› ‹_› ‹_›,show inR (g.sc 1) (-50000) 50000=false by assumption,Bool.and_false];rfl)
  | exact hp
  | skip
end Ax
namespace Ax
set_option maxRecDepth 100000
set_option maxHeartbeats 2000000
section
variable {g:Gm} {q:Pl} {n:Int}
theorem sg (h:std.eqI (actC g n) 0=true):gameB g=true:=by
 have h:=eqI_t h
 unfold actC at h
 by_cases h1:gameB g=true
 ·exact h1
 ·rw [if_neg h1] at h;exact absurd h (by decide)
theorem sg_bd (h:gameB g=true):bdB g.bd=true∧rackB (g.rk g.player)=true:=by
 unfold gameB shapeB twoB sideB at h
 simp only [Bool.and_eq_true,decide_eq_true_eq] at h
 exact⟨h.1.2.1,rk_valid h.2.2.1.1.1 h.2.2.1.2.1 h.2.1.2.2.2.1⟩
theorem sg_code (h:std.eqI (actC g n) 0=true):legalC g.bd g.lex (g.rk g.player) q=codeI g.bd g.lex (g.rk g.player) q:=
 legal_same (sg_bd (sg h)).1 _ (sg_bd (sg h)).2 q
theorem sg_score (h:std.eqI (actC g n) 0=true) (hv:validI g.bd q=true):scoreV g.ts g.bd q=scoreI g.ts g.bd q:=by
 unfold scoreV
 exact score_same (sg_bd (sg h)).1 hv
theorem se1 (hc:turnC g q n=0) (h:std.eqI (actC g n) 0=false):False:=by
 have h1:=eqI_f h
 unfold turnC at hc
 rw [if_neg h1] at hc
 exact h1 hc
theorem se2 (hc:turnC g q n=0) (h:std.eqI (actC g n) 0=true) (h2:waitsB g=true):False:=by
 have h1:=eqI_t h
 unfold turnC at hc
 rw [if_pos h1,if_pos h2] at hc
 exact absurd hc (by decide)
theorem se3 (hc:turnC g q n=0) (h:std.eqI (actC g n) 0=true) (h2:waitsB g=false) (h3:std.eqI (legalC g.bd g.lex (g.rk g.player) q) 0=false) (h4:std.eqI (legalC g.bd g.lex (g.rk g.player) q) 9=false∨std.eqI g.rule 0=true):False:=by
 have h1:=eqI_t h
 have h3:=eqI_f h3
 rw [sg_code h] at h3 h4
 unfold turnC at hc
 rw [if_pos h1,if_neg (by rw [h2];simp),if_pos ⟨h3,h4.imp eqI_f eqI_t⟩] at hc
 exact h3 hc
theorem se_val (h:std.eqI (actC g n) 0=true) (h3:std.eqI (legalC g.bd g.lex (g.rk g.player) q) 0=true∨std.eqI (legalC g.bd g.lex (g.rk g.player) q) 9=true):validI g.bd q=true∧withoutB (g.rk g.player) (tilesP (placedI g.bd q))=true:=by
 rw [sg_code h] at h3
 exact codeI_no2 (h3.imp eqI_t eqI_t)
end
end Ax
end Go.Proofs.YtghmphmbpdiflaaGreatDoor
