/-
  What passes and exchanges answer, of the spec package.
  Conditions: none; the tables of types and of functions are as the program has them.
-/
import Derived.Test.YtjjonmhpgkahoaaGreatDoorH19
import Derived.Test.YtjjonmhpgkahoaaGreatDoorH28
import Derived.Test.YtjjonmhpgkahoaaGreatDoorH29
import Derived.Test.YtjjonmhpgkahoaaGreatDoorH23
import Derived.Test.YtjjonmhpgkahoaaGreatDoorH10
import Derived.Defers
set_option linter.unusedSimpArgs false
set_option linter.unusedVariables false
namespace Go.Proofs.YtjjonmhpgkahoaaGreatDoor
namespace Ax
set_option maxRecDepth 100000
set_option maxHeartbeats 2000000
def mq (p:Pr):aa:=fsp (ac (aA aGm) (a1 aI)) (fun (g,n)=>PsP g) (fun (g,n)=>.tup [.agg (fe (eM g n)),.i .i64 (aO g n)]) (fun (g,n)=>km (eM g n))
def RV (p:Pr):aa:=fsp (ac (aA aGm) (a1 aI)) (fun (g,n)=>PsN g n) (fun (g,n)=>.tup [.agg (fe gm0),.i .i64 (aO g n)]) (fun _=>km gm0)
theorem SB:FOk Tryz.prog 37 (RV std):=FOk.own vP rfl fun ⟨g,n⟩ w e u h hr=>
 nC (.cons (l8 (tB h)) (.cons (fun _ h=>h) .nil)) u hr
theorem SW:FOk Tryz.prog 37 (fsp (ac (aA aGm) (a1 aI)) (fun (g,n)=>PsP g∧(aO g n=0→ja g=false)) (fun (g,n)=>.tup [.agg (fe (eM g n)),.i .i64 (aO g n)]) (fun (g,n)=>km (eM g n))):=
 FOk.casesE vR SB fun ⟨g,n⟩ hp=>by
  by_cases hc:aO g n=0
  ·have e:om g 3 n=eM g n:=by unfold eM l5;rw [if_pos hc,hp.2 hc];rfl
   refine .inl ⟨⟨hp.1,hc,hp.2 hc⟩,?_,?_⟩
   ·show _=PV.tup [.agg (fe (eM g n)),.i .i64 (aO g n)]
    rw [hc,←e];rfl
   ·show _=km (eM g n)
    rw [←e];rfl
  ·refine .inr ⟨⟨hp.1,hc⟩,?_,?_⟩
   ·show _=PV.tup [.agg (fe (eM g n)),.i .i64 (aO g n)]
    unfold eM;rw [if_neg hc]
   ·show _=km (eM g n)
    unfold eM;rw [if_neg hc]
theorem yH:FOk Tryz.prog 37 (mq std):=FOk.casesE vO SW fun ⟨g,n⟩ hp=>by
 by_cases hc:aO g n=0∧ja g=true
 ·have e:eX (om g 3 n)=eM g n:=by unfold eM l5;rw [if_pos hc.1,hc.2];rfl
  refine .inl ⟨⟨hp,hc.1,hc.2⟩,?_,?_⟩
  ·show _=PV.tup [.agg (fe (eM g n)),.i .i64 (aO g n)]
   rw [hc.1,←e];rfl
  ·show _=km (eM g n)
   rw [←e];rfl
 ·exact .inr ⟨⟨hp,fun h=>by cases h2:ja g with | true=>exact absurd ⟨h,h2⟩ hc | false=>rfl⟩,rfl,rfl⟩
def iX (p:Pr):aa:=fsp (ac (aA aGm) (ac aS (a1 aI))) (fun (g,t,n)=>XsP g t) (fun (g,t,n)=>.tup [.agg (fe (xtR g t n)),.i .i64 (xtC g t n)]) (fun (g,t,n)=>km (xtR g t n))
def R7 (p:Pr):aa:=fsp (ac (aA aGm) (ac aS (a1 aI))) (fun (g,t,n)=>XsN g t n) (fun (g,t,n)=>.tup [.agg (fe gm0),.i .i64 (xtC g t n)]) (fun _=>km gm0)
theorem R4:FOk Tryz.prog 36 (R7 std):=FOk.own qx rfl fun ⟨g,t,n⟩ w e u h hr=>
 nC (.cons (l8 (tB h)) (.cons (fun _ h=>h) .nil)) u hr
theorem Ti:FOk Tryz.prog 36 (fsp (ac (aA aGm) (ac aS (a1 aI))) (fun (g,t,n)=>XsP g t∧(xtC g t n=0→ja (xtG g t)=false)) (fun (g,t,n)=>.tup [.agg (fe (xtR g t n)),.i .i64 (xtC g t n)]) (fun (g,t,n)=>km (xtR g t n))):=
 FOk.casesE qj R4 fun ⟨g,t,n⟩ hp=>by
  by_cases hc:xtC g t n=0
  ·have e:om (xtG g t) 2 n=xtR g t n:=by unfold xtR l5;rw [if_pos hc,hp.2 hc];rfl
   refine .inl ⟨⟨hp.1,hc,hp.2 hc⟩,?_,?_⟩
   ·show _=PV.tup [.agg (fe (xtR g t n)),.i .i64 (xtC g t n)]
    rw [hc,←e];rfl
   ·show _=km (xtR g t n)
    rw [←e];rfl
  ·refine .inr ⟨⟨hp.1,hc⟩,?_,?_⟩
   ·show _=PV.tup [.agg (fe (xtR g t n)),.i .i64 (xtC g t n)]
    unfold xtR;rw [if_neg hc]
   ·show _=km (xtR g t n)
    unfold xtR;rw [if_neg hc]
theorem sI:FOk Tryz.prog 36 (iX std):=FOk.casesE qA Ti fun ⟨g,t,n⟩ hp=>by
 by_cases hc:xtC g t n=0∧ja (xtG g t)=true
 ·have e:eX (om (xtG g t) 2 n)=xtR g t n:=by unfold xtR l5;rw [if_pos hc.1,hc.2];rfl
  refine .inl ⟨⟨hp,hc.1,hc.2⟩,?_,?_⟩
  ·show _=PV.tup [.agg (fe (xtR g t n)),.i .i64 (xtC g t n)]
   rw [hc.1,←e];rfl
  ·show _=km (xtR g t n)
   rw [←e];rfl
 ·exact .inr ⟨⟨hp,fun h=>by cases h2:ja (xtG g t) with | true=>exact absurd ⟨h,h2⟩ hc | false=>rfl⟩,rfl,rfl⟩
def gb (p:Pr):aa:=fsp (ac (aA aGm) (ac (aA aPl) (a1 aI))) (fun (g,q,n)=>ER g q) (fun (g,q,n)=>.tup [.agg (fe (ey g q n)),.i .i64 (mg g q n),.i .i64 (bz g q n)]) (fun (g,q,n)=>km (ey g q n))
def Uh (p:Pr):aa:=fsp (ac (aA aGm) (ac (aA aPl) (a1 aI))) (fun (g,q,n)=>StN g q n) (fun (g,q,n)=>.tup [.agg (fe gm0),.i .i64 0,.i .i64 (bz g q n)]) (fun _=>km gm0)
theorem Tc:FOk Tryz.prog 41 (Uh std):=FOk.own vI rfl fun ⟨g,q,n⟩ w e u h hr=>
 nC (.cons (l8 (tB h)) (.cons (fun _ h=>h) (.cons (fun _ h=>h) .nil))) u hr
theorem mr:FOk Tryz.prog 41 (gb std):=FOk.casesE vD Tc fun ⟨g,q,n⟩ hp=>by
 by_cases hc:bz g q n=0
 ·obtain⟨e1,e2⟩:=T4 (g:=g) (q:=q) (n:=n) hc
  refine .inl ⟨⟨hp,hc⟩,?_,?_⟩
  ·show PV.tup [.agg (fe (qG g q n)),.i .i64 (n8 g q),.i .i64 0]=.tup [.agg (fe (ey g q n)),.i .i64 (mg g q n),.i .i64 (bz g q n)]
   unfold ey mg
   rw [if_pos hc,if_pos hc,hc,e1,e2]
  ·show km (qG g q n)=km (ey g q n)
   unfold ey
   rw [if_pos hc,e1]
 ·refine .inr ⟨⟨hp,hc⟩,?_,?_⟩
  ·show PV.tup [.agg (fe gm0),.i .i64 0,.i .i64 (bz g q n)]=.tup [.agg (fe (ey g q n)),.i .i64 (mg g q n),.i .i64 (bz g q n)]
   unfold ey mg
   rw [if_neg hc,if_neg hc]
  ·show km gm0=km (ey g q n)
   unfold ey
   rw [if_neg hc]
set_option maxHeartbeats 20000000
structure T2 (g:Gm) (n:Int):Prop where
 b:StC g
 c:chC g n≠0
section
variable {g:Gm} {n:Int}
theorem cn1 (h:std.eqI (aO g n) 0=false):aO g n=chC g n:=by
 have h1:=dI h
 unfold chC
 rw [if_neg h1]
theorem cn2 (h:std.eqI (aO g n) 0=true) (h2:eN g=false):6=chC g n:=by
 have h1:=bV h
 unfold chC
 rw [if_pos h1,h2];rfl
theorem cn3 (hc:chC g n≠0) (h:std.eqI (aO g n) 0=true) (h2:eN g=true):False:=by
 have h1:=bV h
 unfold chC at hc
 rw [if_pos h1,h2] at hc
 exact hc rfl
end
def pA (p:Pr):aa:=fsp (ac (aA aGm) (a1 aI)) (fun (g,n)=>T2 g n) (fun (g,n)=>.tup [.agg (gmK gm0 .esl .esl .esl .esl .esl .esl),.agg [.esl,.esl,.b false,.i .i64 0],.i .i64 (chC g n)])
theorem pI:FOk Tryz.prog 50 (pA std):=by
 refine FOk.go (c:=cx std [(105,aG std),(142,cw std),(143,cn std),(108,aV std),(121,bH std)] [(131,bF std),(137,ee std),(132,bc std)] 0) (ae (.cons cy (.cons ig (.cons gE (.cons dk (.cons eP .nil))))) (.cons eT (.cons m4 (.cons dy .nil)))) mixed Tryz.func50 rfl rfl rfl (by kernel_rfl) ?_
 rintro ⟨g,n⟩ hp
 dsimp only at hp
 refine⟨rfl,?_⟩
 unfold aG cw cn aV bH bF ee bc
 generalize hP:std=p,hB0:aO=B0,hB1:eN=B1,hB2:vUp=B2,hB3:dV=B3,hB4:cZ=B4,hB5:cC=B5,hB6:oA=B6,hB7:pg=B7,hB8:wSs=B8,hB9:wZe=B9,hB10:wOv=B10,hB11:aT=B11,hB12:fN=B12,hB13:ckL=B13,hB14:chC=B14
 cbv
 repeat' first|refine fun (_:Unit)=>?_;cbv|refine aI2 (fun h=>?_) (fun h=>?_)<;>cbv|refine aI2 ?_ ?_|refine Or.inl (fun (_:Unit)=>?_);cbv
 all_goals subst hP hB0 hB1 hB2 hB3 hB4 hB5 hB6 hB7 hB8 hB9 hB10 hB11 hB12 hB13 hB14
 all_goals try exact fin
 all_goals try (exfalso;exact cn3 hp.c ‹_› ‹_›)
 all_goals try (exfalso;exact absurd (show std.eqI 6 0=true by assumption) (by decide))
 all_goals first
  | exact hp.b.gm
  | exact cn1 ‹_›
  | exact cn2 ‹_› ‹_›
  | skip
def qY (g:Gm) (a b:List (List UInt8)):AH:=[(0,.own [.i .i64] g.ts.values 2),(1,.own [.i .i64] g.ts.counts 2),(2,.own [.s] g.lex 9),(3,.own [.s] g.racks 9),(4,.own [.i .i64] g.scores 2),(5,.own [.i .i64] g.clocks 2),(6,.own [.s] a 9),(7,.own [.s] b 9)]
def chR (g:Gm) (n:Int):Gm:=if chC g n=0 then chG g n else gm0
def chW (g:Gm) (n:Int):List (List UInt8):=if chC g n=0 then cZ g else []
def chX (g:Gm) (n:Int):List (List UInt8):=if chC g n=0 then cC g else []
def chU (g:Gm) (n:Int):Bool:=if chC g n=0 then vUp g else false
def chP (g:Gm) (n:Int):Int:=if chC g n=0 then dV g else 0
theorem CO {w:World} {e:Env} (h : ∀k,((qY gm0 [] []).get k).isSome =true→e.on k∧e.adr k=none∧e.len k=0∧e.cap k=0) {x:Int} : ∀u,R w e (.tup [.agg (gmK gm0 .esl .esl .esl .esl .esl .esl),.agg [.esl,.esl,.b false,.i .i64 0],.i .i64 x]) u→R w e (.tup [.agg (fe gm0),.agg [.osl 6,.osl 7,.b false,.i .i64 0],.i .i64 x]) u:=by
 refine nC (.cons (l8 (tB fun k hk=>h k ?_)) (.cons (l8 (.cons (fun _ hr=>xz (h 6 rfl) hr) (.cons (fun _ hr=>xz (h 7 rfl) hr) (.cons (fun _ h=>h) (.cons (fun _ h=>h) .nil))))) (.cons (fun _ h=>h) .nil)))
 match k,hk with
 | 0,_=>rfl
 | 1,_=>rfl
 | 2,_=>rfl
 | 3,_=>rfl
 | 4,_=>rfl
 | 5,_=>rfl
 | n+6,hk=>simp [km,AH.get] at hk
def ry (p:Pr):aa:=fsp (ac (aA aGm) (a1 aI)) (fun (g,n)=>StC g) (fun (g,n)=>.tup [.agg (fe (chR g n)),.agg [.osl 6,.osl 7,.b (chU g n),.i .i64 (chP g n)],.i .i64 (chC g n)]) (fun (g,n)=>qY (chR g n) (chW g n) (chX g n))
def Rt (p:Pr):aa:=fsp (ac (aA aGm) (a1 aI)) (fun (g,n)=>T2 g n) (fun (g,n)=>.tup [.agg (fe gm0),.agg [.osl 6,.osl 7,.b false,.i .i64 0],.i .i64 (chC g n)]) (fun _=>qY gm0 [] [])
theorem Qu:FOk Tryz.prog 50 (Rt std):=FOk.own pI rfl fun ⟨g,n⟩ w e u h hr=>CO h u hr
theorem C0 (g:Gm) (n:Int):(chG g n).ts =g.ts∧(chG g n).lex =g.lex∧(chG g n).bd0 =g.bd0∧(chG g n).secs =g.secs∧(chG g n).rule =g.rule:=by
 unfold chG
 split
 ·exact⟨rfl,rfl,rfl,rfl,rfl⟩
 ·unfold rfG
  split<;>exact⟨rfl,rfl,rfl,rfl,rfl⟩
theorem rC:FOk Tryz.prog 50 (ry std):=FOk.casesE pc Qu fun ⟨g,n⟩ hp=>by
 by_cases hc:chC g n=0
 ·obtain⟨e1,e2,e3,e4,e5⟩:=C0 g n
  refine .inl ⟨⟨hp,hc⟩,?_,?_⟩
  ·show _=PV.tup [.agg (fe (chR g n)),.agg [.osl 6,.osl 7,.b (chU g n),.i .i64 (chP g n)],.i .i64 (chC g n)]
   unfold chR chU chP
   rw [if_pos hc,if_pos hc,if_pos hc,hc]
   show PV.tup [.agg (gmK ⟨g.ts,g.lex,g.bd0,g.secs,g.rule,(chG g n).bd,(chG g n).bag,(chG g n).racks,(chG g n).scores,(chG g n).clocks,(chG g n).player,(chG g n).zeros,(chG g n).last,(chG g n).over⟩ (.osl 0) (.osl 1) (.osl 2) (.osl 3) (.osl 4) (.osl 5)),_,_]=_
   rw [←e1,←e2,←e3,←e4,←e5];rfl
  ·show _=qY (chR g n) (chW g n) (chX g n)
   unfold chR chW chX
   rw [if_pos hc,if_pos hc,if_pos hc]
   show qY ⟨g.ts,g.lex,g.bd0,g.secs,g.rule,(chG g n).bd,(chG g n).bag,(chG g n).racks,(chG g n).scores,(chG g n).clocks,(chG g n).player,(chG g n).zeros,(chG g n).last,(chG g n).over⟩ _ _=_
   rw [←e1,←e2,←e3,←e4,←e5]
 ·refine .inr ⟨⟨hp,hc⟩,?_,?_⟩
  ·show _=PV.tup [.agg (fe (chR g n)),.agg [.osl 6,.osl 7,.b (chU g n),.i .i64 (chP g n)],.i .i64 (chC g n)]
   unfold chR chU chP
   rw [if_neg hc,if_neg hc,if_neg hc]
  ·show qY gm0 [] []=qY (chR g n) (chW g n) (chX g n)
   unfold chR chW chX
   rw [if_neg hc,if_neg hc,if_neg hc]
structure Ac where
 kind:Int
 play:Pl
 tiles:List UInt8
 secs:Int
@[simp] theorem UB (a:Ac):Ac.mk a.kind a.play a.tiles a.secs=a:=rfl
def VX (a:Ac):Bool:=inR a.secs 0 36000&&(if a.kind=1 then P7 a.play&&a.tiles.isEmpty else if a.kind=2 then N8 a.play pl0&&(!a.tiles.isEmpty&&aM a.tiles) else if a.kind=3∨a.kind=4 then N8 a.play pl0&&a.tiles.isEmpty else false)
section
variable {a:Ac}
end
def doG (g:Gm) (a:Ac):Gm:=if a.kind=1 then ey g a.play a.secs else if a.kind=2 then xtR g a.tiles a.secs else if a.kind=3 then eM g a.secs else chR g a.secs
def doP (g:Gm) (a:Ac):Int:=if a.kind=1 then mg g a.play a.secs else if a.kind=2 then 0 else if a.kind=3 then 0 else chP g a.secs
def doC (g:Gm) (a:Ac):Int:=if a.kind=1 then bz g a.play a.secs else if a.kind=2 then xtC g a.tiles a.secs else if a.kind=3 then aO g a.secs else chC g a.secs
section
variable {g:Gm} {a:Ac}
end
open Go.RowKit
def AS.fr (st:AS) (tm:List PV):AS:=⟨tm,st.h,st.nx⟩
section
variable {P:Program} {c:Cx} {w w' w0:World} {e e':Env} {fz:Nat→Prop} {M:ij} {st st':AS} {a a':Act}
def ij.inn (st:AS) (e:Env):ij:=⟨fun b=>∃k,e.lv k∧e.blk k b,st.nx,e,[]⟩
theorem SR.inn (h:SR w0 fz M st a w e) {tm:List PV} {ts:Array Value} (hs:ts.size=tm.length) (ht : ∀(t:Nat) (p:PV),tm[t]? =some p→R w e p (ts.getD t undef)) :
 SR w e.fz (ij.inn st e) (st.fr tm) { tmps:=ts,defers:=[] } w e:=by
 have hz:=h.ez.fw h.fzb h.low
 refine⟨hs,ht,h.ob,h.lo,h.lt,h.dis,fun k b hk hb=>⟨.inr ⟨k,hk,hb⟩,(h.bd k b hk hb).2⟩,⟨fun _ hb=>hb,fun _ hb=>.inl hb,h.ez.nf⟩,⟨fun b hb=>⟨hz.lt b hb,fun ⟨k,hk,hkb⟩=>h.ez.nf k b hk hkb hb⟩,hz.gl⟩,Chg.refl _ _,fun k _ hk=>⟨hk,rfl,rfl,rfl⟩,rfl⟩
theorem SR.out (h:SR w0 fz M st a w e) (hi:SR w e.fz (ij.inn st e) st' a' w' e'):SR w0 fz M ⟨st.tm,st'.h,st'.nx⟩ a w' e':=by
 have hle:e.Le e':=⟨fun k hk=>(hi.root k (h.lt k hk) hk).1,fun k hk=>(hi.root k (h.lt k hk) hk).2.1,fun k hk=>(hi.root k (h.lt k hk) hk).2.2.1,fun k hk=>(hi.root k (h.lt k hk) hk).2.2.2,fun b hb=>hi.ez.sub b hb⟩
 have hsame:Same e.fz w w':=fun b hb=>hi.low.block b (hi.fzb.lt b hb).1 (hi.fzb.lt b hb).2
 have hold : ∀b,w.heap.size≤b∨(∃k,e.lv k∧e.blk k b)→w0.heap.size≤b∨M b:=fun b hb=>by
  rcases hb with hb | ⟨k,hk,hkb⟩
  ·exact .inl (Nat.le_trans h.low.size hb)
  ·exact (h.bd k b hk hkb).1
 refine⟨h.size,fun t p hp=>jt hsame hle p _ (h.tm t p hp),hi.ob,hi.lo,hi.lt,hi.dis,fun k b hk hb=>⟨hold b (hi.bd k b hk hb).1,(hi.bd k b hk hb).2⟩,⟨fun b hb=>hi.ez.sub b (h.ez.sub b hb),fun b hb=>?_,hi.ez.nf⟩,h.fzb,⟨hi.low.os.trans h.low.os,hi.low.tape.trans h.low.tape,hi.low.output.trans h.low.output,Nat.le_trans h.low.size hi.low.size,fun b hb hM=>?_⟩,we h.root hle,h.defers⟩
 ·rcases hi.ez.sup b hb with h1 | h1
  ·exact (h.ez.sup b h1).imp id fun q=>⟨q.1,Nat.lt_of_lt_of_le q.2 hi.low.size⟩
  ·exact .inr ⟨Nat.le_trans h.low.size h1.1,h1.2⟩
 ·rw [hi.low.block b (Nat.lt_of_lt_of_le hb h.low.size) fun ⟨k,hk,hkb⟩=>?_]
  ·exact h.low.block b hb hM
  ·rcases (h.bd k b hk hkb).1 with h1 | h1
   ·exact absurd hb (Nat.not_lt.2 h1)
   ·exact hM h1
def dfr:Code→Option (Nat×FuncId×List Operand)
 | .region _ ⟨[⟨some t,.makeFunc (.func f) ⟨[]⟩ cs,_,_,_,none⟩,⟨none,.defer ⟨.value (.tmp t'),⟨[]⟩,_⟩,_,_,_,none⟩]⟩ false=>if Nat.beq t t' then some (t,f,cs.toList) else none
 | _=>none
def Mx:List PV→Bool
 | []=>true
 | .ptr _ _::r=>Mx r
 | _=>false
theorem IQ {M:ij} {w w':World} {e e':Env} (hr : ∀k,k<M.n→M.e.on k→e'.on k∧e'.adr k=M.e.adr k∧e'.cap k=M.e.cap k∧e'.len k=M.e.len k) (he:M.e=e) (hl : ∀k,e.on k→k<M.n) : ∀{l:List PV} {vs:List Value},Mx l=true→Rs w e l vs→Rs w' e' l vs
 | [],vs,_,h=>by unfold Rs at *;exact h
 | .ptr id off::l,vs,hp,h=>by
   unfold Rs at h ⊢
   obtain⟨u,us,h1,h2,h3⟩:=h
   refine⟨u,us,h1,?_,IQ hr he hl (by unfold Mx at hp;exact hp) h3⟩
   unfold R at h2 ⊢
   obtain⟨h4,b,h5,h6⟩:=h2
   obtain⟨g1,g2, -, -⟩:=hr id (hl id h4) (by rw [he];exact h4)
   exact⟨g1,b,by rw [g2,he];exact h5,h6⟩
abbrev QD:=FuncId→List PV→AEx→AS→Prop
def HT (c:Cx) (Q:AEx→AS→Prop) (q:QD):Code→AS→Prop
 | .seq x y,st=>match dfr x with
   | some (t,f,cs)=>((Nat.blt t st.tm.length&&Mx (cs.map (ev st.tm)))=true)∧awp ⟨c.p,c.T,c.F,c.M,st.nx,c.C,c.I,c.N,c.U,c.Z,c.K⟩ y (q f (cs.map (ev st.tm))) ⟨put st.tm (some t) (.fn f (cs.map (ev st.tm))),st.h,st.nx⟩
   | none=>awp c x (fun z st'=>match z with | .normal =>HT c Q q y st' | z=>Q z st') st
 | x,st=>awp c x Q st
def qe:Code→Bool
 | .seq x y=>match dfr x with
   | some _=>codeOk y
   | none=>codeOk x&&qe y
 | x=>codeOk x
def AEx.of:AEx→Exit
 | .normal =>.normal
 | .exit k=>.exit k
 | .ret =>.ret
theorem Mp (hc:dD P c) (hm:P.follows .mixedOrders =true) (hn0:M.n=c.n0) {Q:AEx→AS→Prop} {q:QD} {K:Exit→Act→World→Prop}
 (h0 : ∀x st a w e,SR w0 fz M st a w e→Q x st→K x.of a w)
 (h1 : ∀f cs vs x st a w e,Rs w e cs vs→SR w0 fz { M with d:=⟨.fn (.func f) vs.toArray,#[]⟩::M.d } st a w e→q f cs x st→K x.of a w) :
 ∀(b:Code),qe b=true→∀(st:AS) (a:Act) (w:World) (e:Env),HT c Q q b st→SR w0 fz M st a w e→b.wp P K a w:=by
 have plain : ∀(b:Code),codeOk b=true→∀(st:AS) (a:Act) (w:World) (e:Env),awp c b Q st→SR w0 fz M st a w e→b.wp P K a w:=fun b hk st a w e h hs=>by
  refine wp_mono (fS hc hm hn0 b hk Q st a w e h hs) ?_
  intro x a' w' hq
  cases x with
  | normal=>obtain⟨st',e',g1,g2⟩:=hq;exact h0 .normal _ _ _ _ g1 g2
  | exit id=>obtain⟨st',e',g1,g2⟩:=hq;exact h0 (.exit id) _ _ _ _ g1 g2
  | ret=>obtain⟨st',e',g1,g2⟩:=hq;exact h0 .ret _ _ _ _ g1 g2
  | goto l=>exact hq.elim
  | panic ch=>exact hq.elim
  | outgrown=>exact hq.elim
 intro b
 induction b with
 | seq x y ihx ihy=>
   intro hk st a w e h hs
   unfold qe at hk
   unfold HT at h
   cases hd:dfr x with
   | none=>
     rw [hd] at hk h
     simp only at hk h
     rw [Bool.and_eq_true] at hk
     refine wp_seq (wp_mono (fS hc hm hn0 x hk.1 _ st a w e h hs) ?_)
     intro x' a' w' hq
     cases x' with
     | normal=>obtain⟨st',e',g1,g2⟩:=hq;exact ihy hk.2 st' a' w' e' g2 g1
     | exit id=>obtain⟨st',e',g1,g2⟩:=hq;exact h0 (.exit id) _ _ _ _ g1 g2
     | ret=>obtain⟨st',e',g1,g2⟩:=hq;exact h0 .ret _ _ _ _ g1 g2
     | goto l=>exact hq.elim
     | panic ch=>exact hq.elim
     | outgrown=>exact hq.elim
   | some r=>
     obtain⟨t,f,cs⟩:=r
     rw [hd] at hk h
     simp only at hk h
     unfold dfr at hd
     split at hd
     ·rename_i id t1 f1 cs1 ty1 p1 f2 t' at2 ty2 p2 f3
      split at hd
      ·rename_i htt
       have htt:=Nat.eq_of_beq_eq_true htt
       subst htt
       cases hd
       refine wp_seq (wp_region_list ?_)
       obtain⟨hck,h⟩:=h
       rw [Bool.and_eq_true,Nat.blt_eq] at hck
       obtain⟨hlt,hpt⟩:=hck
       show wpList P _ _ [_,_] a w
       unfold wpList
       rw [if_pos (show Region.wanted _ _=true from rfl)]
       have ho:aop c (.makeFunc (.func f) #[] cs1) (ev st.tm) st.h st.nx=some ⟨[],.fn f (cs1.toList.map (ev st.tm)),[]⟩:=by
        unfold aop
        rw [show Ev c (.makeFunc (.func f) #[] cs1) (ev st.tm)=none from by unfold Ev;split<;>rfl];rfl
       refine .inl (sB (Oper.wp_mono ?_ (hs.aop (o:=⟨some t,.makeFunc (.func f) #[] cs1,ty1,p1,f2,none⟩) hc ho (fun p hp=>by cases hp))))
       rintro a' w' ⟨e',hs'⟩
       have hx:=hs'.tm t (.fn f (cs1.toList.map (ev st.tm))) (by show (st.tm.set t _)[t]? =_;rw [List.getElem?_set_self hlt])
       unfold R at hx
       obtain⟨vs,hv,hcap⟩:=hx
       unfold wpList
       rw [if_pos (show Region.wanted _ _=true from rfl)]
       refine .inl ?_
       unfold Oper.wp
       have hrun:(execOp a'.eval ⟨none,.defer ⟨.value (.tmp t),#[],at2⟩,ty2,p2,f3,none⟩).run P w'=.ok (.defer ⟨.fn (.func f) vs,#[]⟩) w':=by
        have e1:a'.eval (.tmp t)=.func (.func f) #[] vs:=hv
        simp [execOp,resolve,e1,Deferred.ofValue]
       rw [hrun,Oper.upon_defer]
       unfold wpList
       obtain⟨M2,hM2⟩ : ∃M2:ij,M2=⟨M.m,st.nx,e',⟨.fn (.func f) vs,#[]⟩::M.d⟩:=⟨_,rfl⟩
       have hs2:SR w0 fz M2 ⟨put st.tm (some t) (.fn f (cs1.toList.map (ev st.tm))),st.h,st.nx⟩ { a' with defers:=⟨.fn (.func f) vs,#[]⟩::a'.defers } w' e':=by
        subst hM2
        exact⟨hs'.size,hs'.tm,hs'.ob,hs'.lo,hs'.lt,hs'.dis,hs'.bd,hs'.ez,⟨hs'.fzb.lt,hs'.fzb.gl⟩,hs'.low,fun k _ hk=>⟨hk,rfl,rfl,rfl⟩,by show _::a'.defers=_::M.d;rw [hs'.defers]⟩
       have hc':dD P ⟨c.p,c.T,c.F,c.M,st.nx,c.C,c.I,c.N,c.U,c.Z,c.K⟩:=⟨hc.p,hc.T,hc.F,hc.M,hc.C,hc.N,hc.U,hc.I⟩
       have back : ∀st2 a2 w2 e2,SR w0 fz M2 st2 a2 w2 e2→Rs w2 e2 (cs1.toList.map (ev st.tm)) vs.toList∧SR w0 fz { M with d:=⟨.fn (.func f) vs.toList.toArray,#[]⟩::M.d } st2 a2 w2 e2:=fun st2 a2 w2 e2 g=>by
        subst hM2
        refine⟨IQ (M:=⟨M.m,st.nx,e',⟨.fn (.func f) vs,#[]⟩::M.d⟩) g.root rfl hs'.lt hpt hcap,⟨g.size,g.tm,g.ob,g.lo,g.lt,g.dis,g.bd,g.ez,⟨g.fzb.lt,g.fzb.gl⟩,g.low,fun k hk ho=>?_,g.defers⟩⟩
        obtain⟨r1,r2,r3,r4⟩:=hs'.root k hk ho
        obtain⟨q1,q2,q3,q4⟩:=g.root k (hs'.lt k r1) r1
        exact⟨q1,q2.trans r2,q3.trans r3,q4.trans r4⟩
       refine wp_mono (fS (M:=M2) hc' hm (by subst hM2;rfl) y hk _ _ _ w' e' h hs2) ?_
       intro x' a2 w2 hq
       cases x' with
       | normal=>obtain⟨st',e2,g1,g2⟩:=hq;obtain⟨b1,b2⟩:=back _ _ _ _ g1;exact h1 f _ vs.toList .normal _ _ _ _ b1 b2 g2
       | exit id=>obtain⟨st',e2,g1,g2⟩:=hq;obtain⟨b1,b2⟩:=back _ _ _ _ g1;exact h1 f _ vs.toList (.exit id) _ _ _ _ b1 b2 g2
       | ret=>obtain⟨st',e2,g1,g2⟩:=hq;obtain⟨b1,b2⟩:=back _ _ _ _ g1;exact h1 f _ vs.toList .ret _ _ _ _ b1 b2 g2
       | goto l=>exact hq.elim
       | panic ch=>exact hq.elim
       | outgrown=>exact hq.elim
      ·cases hd
     ·cases hd
 | skip=>exact fun hk st a w e h hs=>plain _ hk st a w e h hs
 | region id ops d=>exact fun hk st a w e h hs=>plain _ hk st a w e h hs
 | cond x y z _ _=>exact fun hk st a w e h hs=>plain _ hk st a w e h hs
 | block id y _=>exact fun hk st a w e h hs=>plain _ hk st a w e h hs
 | loop y _=>exact fun hk st a w e h hs=>plain _ hk st a w e h hs
 | exit id=>exact fun hk st a w e h hs=>plain _ hk st a w e h hs
 | ret=>exact fun hk st a w e h hs=>plain _ hk st a w e h hs
 | _=>exact fun hk st a w e h hs=>plain _ hk st a w e h hs
theorem G0 {n:Nat} {l:List PV} {vs:Array Value} (h:Rs w e l vs.toList) {t:Nat} {p:PV} (hp:(l++List.replicate (n-l.length) .dead)[t]? =some p):R w e p ((vs++Array.replicate (n-vs.size) undef).getD t undef):=by
 have hlen:=bm h
 rw [List.getElem?_append] at hp
 split at hp
 ·rename_i ht
  obtain⟨u,h4,h5⟩:=mB h hp
  have hsz:t<vs.size:=by simpa [←hlen] using ht
  have : (vs++Array.replicate (n-vs.size) undef).getD t undef=u:=by
   rw [Array.getD_eq_getD_getElem?,Array.getElem?_append_left hsz]
   have : vs[t]? =some u:=by simpa using h4
   rw [this];rfl
  rw [this]
  exact h5
 ·rw [List.getElem?_replicate] at hp
  split at hp
  ·cases hp;unfold R;trivial
  ·cases hp
theorem wz (hc:dD P c) {fn:Func} {H:AH} {out:Out} (hn0:c.n0=H.length) {e1:Env} {st:AS} {a':Act} {w':World} {D:List Deferred}
 (hon : ∀k,e.on k↔k<H.length) (hlv : ∀k,e.lv k↔k<H.length) (hM:M=⟨fun b=>∃k,e.on k∧e.blk k b,H.length,e,D⟩) (hs':SR w e.fz M st a' w' e1) (hq:tq c fn.results.toList out .ret st) :
 ∃v e',(results fn a'.tmps).run P w'=.ok v w'∧fW w w' e e' H.length out v:=by
 unfold tq at hq
 try simp only at hq
 split at hq
 ·rename_i l hlr
  obtain⟨hck1,hobs⟩:=hq
  generalize reach st.h 60 (List.range c.n0++oa l) []=ρ at hck1 hobs
  obtain⟨v,hv1,hv2⟩:=jX hc hs' hlr
  simp only [keep,chk,Bool.and_eq_true,List.all_eq_true,Nat.blt_eq,Nat.ble_eq,List.mem_range] at hck1
  obtain⟨⟨⟨hkn,hkeep⟩,hnd, -,hob1⟩,hfull,hvin⟩:=hck1
  rw [hn0] at hkn hkeep
  have hkeep : ∀k,k<H.length→look ρ k=k:=fun k hk=>Nat.eq_of_beq_eq_true (hkeep k hk)
  obtain⟨hsame,hob2⟩:=pR hobs
  have hrn:=e1.rn_ok (look ρ) ρ.length
  unfold full at hfull
  rw [List.all_eq_true] at hfull
  have hfull : ∀k,k<ρ.length→(out.eff.get k).isSome =true:=fun k hk=>hfull k (List.mem_range.2 hk)
  have hroot : ∀k,e.on k→e1.on k∧e1.adr k=e.adr k∧e1.cap k=e.cap k∧e1.len k=e.len k:=fun k hk=>by
   have:=hs'.root k
   subst hM
   exact this ((hon k).1 hk) hk
  have hst : ∀k,e.on k→k<ρ.length∧look ρ k=k:=fun k hk=>⟨Nat.lt_of_lt_of_le ((hon k).1 hk) hkn,hkeep k ((hon k).1 hk)⟩
  refine⟨v,e1.rn (look ρ) ρ.length,hv1,?_,?_,⟨fun b hb=>hs'.ez.sup b hb,fun k b hk _ hb hf=>absurd hf (hs'.ez.nf (look ρ k) b hk.2 hb)⟩,?_,?_,?_,?_,?_,?_⟩
  ·exact yK hrn _ _ hvin (py _ _ _ hsame hv2)
  ·refine⟨fun k hk=>⟨(hst k hk).1,by rw [(hst k hk).2];exact (hroot k hk).1⟩,fun k hk=>?_,fun k hk=>?_,fun k hk=>?_,fun b hb=>hs'.ez.sub b hb⟩
   ·show e1.adr (look ρ k)=_;rw [(hst k hk).2];exact (hroot k hk).2.1
   ·show e1.cap (look ρ k)=_;rw [(hst k hk).2];exact (hroot k hk).2.2.1
   ·show e1.len (look ρ k)=_;rw [(hst k hk).2];exact (hroot k hk).2.2.2
  ·intro k o hk
   have hmem:=get_mem hk
   obtain⟨h4,h5⟩:=hob1 _ hmem
   obtain⟨x,hx,hxo⟩:=hob2 _ hmem
   obtain⟨h6,h7,h8⟩:=hs'.ob _ _ hx
   exact⟨yo hrn h5 (xE hxo h6),⟨h4,h7⟩,fun hg=>⟨h4,h8 (by rw [kF hxo,mz];exact hg)⟩⟩
  ·intro k hk
   by_cases hkH:k<H.length
   ·exact .inl ((hon k).2 hkH)
   ·exact .inr ⟨Nat.le_of_not_lt hkH,hfull k hk.1⟩
  ·intro k hk
   by_cases hkH:k<H.length
   ·exact .inl ((hlv k).2 hkH)
   ·refine .inr ⟨fun h=>hkH ((hon k).1 h),⟨hk.1,hs'.lo _ hk.2⟩,fun b hb=>⟨(hs'.bd (look ρ k) b hk.2 hb).2,?_⟩⟩
    rcases (hs'.bd (look ρ k) b hk.2 hb).1 with h | h
    ·exact .inl h
    ·refine .inr ?_
     subst hM
     obtain⟨j,hj,x,hx,hxb⟩:=h
     obtain⟨q1,q2, -, -⟩:=hroot j hj
     refine⟨j,(hlv j).2 ((hon j).1 hj),fun hjl=>?_,x,hx,hxb⟩
     have hjl:e1.lv (look ρ j):=hjl.2
     have h3:=(hst j hj).2
     have:=hs'.dis (look ρ k) (look ρ j) b hk.2 hjl hb ⟨x,by rw [h3,q2];exact hx,hxb⟩
     have:=iA hnd hk.1 (hst j hj).1 this
     subst this
     exact hkH ((hon k).1 hj)
  ·intro k hk
   have hkn:k<ρ.length:=(hst k ((hlv k).1 hk |> (hon k).2)).1
   obtain⟨o,ho⟩:=Option.isSome_iff_exists.1 (hfull k hkn)
   cases hg:o.gn with
   | true=>cases o with
     | gone=>exact .inr ho
     | _=>cases hg
   | false=>
     obtain⟨x,hx,hxo⟩:=hob2 _ (get_mem ho)
     exact .inl ⟨hkn,(hs'.ob _ _ hx).2.2 (by rw [kF hxo,mz];exact hg)⟩
  ·intro k k' b hk _ hk' _ hb hb'
   exact iA hnd hk.1 hk'.1 (hs'.dis _ _ b hk.2 hk'.2 hb hb')
  ·refine⟨hs'.low.os,hs'.low.tape,hs'.low.output,hs'.low.size,fun b hb hnM=>hs'.low.block b hb fun hMb=>hnM ?_⟩
   subst hM
   obtain⟨k,hk,hkb⟩:=hMb
   exact⟨k,(hlv k).2 ((hon k).1 hk),hfull k (hst k hk).1,hkb⟩
 ·exact hq.elim
def qD (c:Cx) (f1 n1:Nat) (body1:Code) (rs:List ResultVar) (out:Out):QD:=fun g cs x st=>match x with
 | .exit _=>False
 | _=>(Nat.beq g f1&&Nat.ble cs.length n1)=true∧awp ⟨c.p,c.T,c.F,c.M,st.nx,c.C,c.I,c.N,c.U,c.Z,fun _=>[]⟩ body1 (fun x' st'=>match x' with
   | .exit _=>False
   | _=>tq c rs out .ret ⟨st.tm,st'.h,st'.nx⟩) ⟨cs++List.replicate (n1-cs.length) .dead,st.h,st.nx⟩
theorem Lt (hc:dD P c) (hm:P.follows .mixedOrders =true) {f f1:FuncId} {fn fn1:Func} {body body1:Code} (hf:P.funcs[f]? =some fn) (hb:fn.body=some body) (hck:qe body=true)
 (hf1:P.funcs[f1]? =some fn1) (hb1:fn1.body=some body1) (hck1:codeOk body1=true) (hnm1:(fn1.name=="runtime.NumGoroutine")=false) (hr1:fn1.results=#[]) {args:List PV} {out:Out} (hn0:c.n0=0)
 {e:Env} {vals:Array Value} (hz:FzW w e.fz) (hon : ∀k,¬e.on k) (hlv : ∀k,¬e.lv k) (hl0:Rs w e args vals.toList)
 (h2:HT c (tq c fn.results.toList out) (qD c f1 fn1.ntmps body1 fn.results.toList out) body ⟨args++List.replicate (fn.ntmps-args.length) .dead,[],0⟩):Calls P f vals w fun en w'=>∃v e',en=.returned v∧fW w w' e e' 0 out v:=by
 have hlen:=bm hl0
 obtain⟨M,hM⟩ : ∃M:ij,M=⟨fun b=>∃k,e.on k∧e.blk k b,0,e,[]⟩:=⟨_,rfl⟩
 have hsr:SR w e.fz M ⟨args++List.replicate (fn.ntmps-args.length) .dead,[],0⟩ { tmps:=vals++Array.replicate (fn.ntmps-vals.size) undef,defers:=[] } w e:=by
  have hsz:vals.size=args.length:=by rw [←hlen];simp
  refine⟨by simp [hsz],fun t p hp=>G0 (by simpa using hl0) hp,fun id o h=>by simp [AH.get] at h,fun k hk=>(hlv k hk).elim,fun k hk=>(hon k hk).elim,fun k k' b hk=>(hlv k hk).elim,fun k b hk=>(hlv k hk).elim,⟨fun _ h=>h,fun _ h=>.inl h,fun k b hk=>(hlv k hk).elim⟩,⟨fun b hb=>⟨hz.lt b hb,by subst hM;rintro ⟨k,hk, -⟩;exact hon k hk⟩,hz.gl⟩,Chg.refl _ _,by subst hM;exact fun k _ hk=>⟨hk,rfl,rfl,rfl⟩,by subst hM;rfl⟩
 have hon' : ∀k,e.on k↔k<([]:AH).length :=fun k=>⟨fun h=>(hon k h).elim,fun h=>absurd h (Nat.not_lt_zero k)⟩
 have hlv' : ∀k,e.lv k↔k<([]:AH).length :=fun k=>⟨fun h=>(hlv k h).elim,fun h=>absurd h (Nat.not_lt_zero k)⟩
 refine calls_of_wp_defers hf hb (Mp (M:=M) hc hm (by subst hM;exact hn0.symm) ?_ ?_ body hck _ _ w e h2 hsr)
 ·intro x st a w' e' hs hq
  have hd:a.defers=[]:=by have:=hs.defers;subst hM;exact this
  cases x with
  | exit id=>exact hq.elim
  | normal=>
    obtain⟨v,e2,g1,g2⟩:=wz (D:=[]) hc (H:=[]) (by rw [hn0];rfl) hon' hlv' hM hs hq
    show Leaves P fn a.tmps _ a.defers .returning w'
    rw [hd]
    exact⟨v,g1,v,e2,rfl,g2⟩
  | ret=>
    obtain⟨v,e2,g1,g2⟩:=wz (D:=[]) hc (H:=[]) (by rw [hn0];rfl) hon' hlv' hM hs hq
    show Leaves P fn a.tmps _ a.defers .returning w'
    rw [hd]
    exact⟨v,g1,v,e2,rfl,g2⟩
 ·intro g cs vs x st a w' e' hcs hs hq
  have hd:a.defers=[⟨.fn (.func g) vs.toArray,#[]⟩]:=by have:=hs.defers;subst hM;exact this
  have main:qD c f1 fn1.ntmps body1 fn.results.toList out g cs .ret st→Leaves P fn a.tmps (fun en w'=>∃v e',en=.returned v∧fW w w' e e' 0 out v) a.defers .returning w':=by
   intro hq0
   obtain⟨hck2,hq2⟩:=hq0
   rw [Bool.and_eq_true,Nat.ble_eq] at hck2
   obtain⟨hg,hn1⟩:=hck2
   have hg:=Nat.eq_of_beq_eq_true hg
   subst hg
   rw [hd]
   have hcl:=bm hcs
   have hsi:=hs.inn (tm:=cs++List.replicate (fn1.ntmps-cs.length) .dead) (ts:=vs.toArray++Array.replicate (fn1.ntmps-vs.toArray.size) undef) (by simp [hcl]) (fun t p hp=>G0 (by simpa using hcs) hp)
   have hc':dD P ⟨c.p,c.T,c.F,c.M,st.nx,c.C,c.I,c.N,c.U,c.Z,fun _=>[]⟩:=⟨hc.p,hc.T,hc.F,hc.M,hc.C,hc.N,hc.U,hc.I⟩
   have hinv:(invoke (.fn (.func g) vs.toArray) #[]).run P w'=.ok (.enter g vs.toArray) w':=by
    have h5:fn1.name≠"runtime.NumGoroutine":=by simpa using hnm1
    simp [invoke,callFunc,hf1,h5,hb1]
   have fin3 : ∀st3 a3 w3 e3,SR w' e'.fz (ij.inn st e') st3 a3 w3 e3→tq c fn.results.toList out .ret ⟨st.tm,st3.h,st3.nx⟩→a3.defers=[]∧∃v,(results fn1 a3.tmps).run P w3=.ok v w3∧(∃v',Ending.returned v=.returned v'∧∃v2 e2,(results fn a.tmps).run P w3=.ok v2 w3∧fW w w3 e e2 0 out v2):=fun st3 a3 w3 e3 g1 g2=>by
    refine⟨g1.defers,.tuple #[],?_,_,rfl,?_⟩
    ·simp [results,hr1]
    ·exact wz (D:=[⟨.fn (.func g) vs.toArray,#[]⟩]) hc (H:=[]) (by rw [hn0];rfl) hon' hlv' (by subst hM;rfl) (hs.out g1) g2
   refine leaves_cons (by simp) hinv ((callsD_of_wp (R:=fun en w3=>∃v',en=.returned v'∧∃v2 e2,(results fn a.tmps).run P w3=.ok v2 w3∧fW w w3 e e2 0 out v2) hf1 hb1 ?_).mono ?_)
   ·refine wp_mono (fS (M:=ij.inn st e') hc' hm rfl body1 hck1 _ _ _ _ _ hq2 hsi) ?_
    intro x' a3 w3 hq3
    cases x' with
    | normal=>obtain⟨st3,e3,g1,g2⟩:=hq3;exact fin3 _ _ _ _ g1 g2
    | ret=>obtain⟨st3,e3,g1,g2⟩:=hq3;exact fin3 _ _ _ _ g1 g2
    | exit id=>obtain⟨st3,e3,g1,g2⟩:=hq3;exact g2.elim
    | goto l=>exact hq3.elim
    | panic ch=>exact hq3.elim
    | outgrown=>exact hq3.elim
   ·rintro en u' w3 ⟨rfl,v',rfl,v2,e2,g1,g2⟩
    exact⟨v2,g1,v2,e2,rfl,g2⟩
  cases x with
  | exit id=>exact hq.elim
  | normal=>exact main hq
  | ret=>exact main hq
theorem FOk.of_awpD (hc:dD P c) (hm:P.follows .mixedOrders =true) {f f1:FuncId} {fn fn1:Func} {body body1:Code} {S:aa} (hf:P.funcs[f]? =some fn) (hb:fn.body=some body) (hn:(fn.name=="runtime.NumGoroutine")=false) (hn0:c.n0=0) (hck:qe body=true)
 (hf1:P.funcs[f1]? =some fn1) (hb1:fn1.body=some body1) (hck1:codeOk body1=true) (hnm1:(fn1.name=="runtime.NumGoroutine")=false) (hr1:fn1.results=#[])
 (h : ∀args out,S args=some out→(∀p∈out.pre,p)→(cP [] args&&Nat.ble args.length fn.ntmps)=true∧HT c (tq c fn.results.toList out) (qD c f1 fn1.ntmps body1 fn.results.toList out) body ⟨args++List.replicate (fn.ntmps-args.length) .dead,[],0⟩):FOk P f S:=by
 refine⟨⟨fn,hf,hn,by rw [hb];rfl⟩,fun args out hs hp w e vals hz hl=>?_⟩
 obtain⟨h1,h2⟩:=h args out hs hp
 rw [Bool.and_eq_true,Nat.ble_eq] at h1
 have hrn0:Rn id [] e { e with on:=fun _=>False,lv:=fun _=>False }:=⟨fun k hk=>absurd hk (by simp),fun _=>rfl,fun _=>rfl,fun _=>rfl,rfl⟩
 have hl0:Rs w { e with on:=fun _=>False,lv:=fun _=>False } args vals.toList:=th hrn0 args _ h1.1 (by rw [ol];exact hl)
 exact Lt hc hm hf hb hck hf1 hb1 hck1 hnm1 hr1 hn0 (e:={ e with on:=fun _=>False,lv:=fun _=>False }) hz (fun k h=>h) (fun k h=>h) hl0 h2
theorem FOk.goD {α:Type} {A:gi α} {pre:α→Prop} {v:α→PV} {eff:α→AH} {f f1:FuncId} {fn fn1:Func} {body body1:Code} (hc:dD P c) (hm:P.follows .mixedOrders =true) (hf:P.funcs[f]? =some fn) (hb:fn.body=some body) (hn:(fn.name=="runtime.NumGoroutine")=false) (hn0:c.n0=0) (hck:qe body=true)
 (hf1:P.funcs[f1]? =some fn1) (hb1:fn1.body=some body1) (hck1:codeOk body1=true) (hnm1:(fn1.name=="runtime.NumGoroutine")=false) (hr1:fn1.results=#[])
 (h : ∀a,pre a→(cP [] (A.enc a)&&Nat.ble (A.enc a).length fn.ntmps)=true∧HT c (tq c fn.results.toList ⟨[],v a,eff a⟩) (qD c f1 fn1.ntmps body1 fn.results.toList ⟨[],v a,eff a⟩) body ⟨A.enc a++List.replicate (fn.ntmps-(A.enc a).length) .dead,[],0⟩):FOk P f (fsp A pre v eff):=
 FOk.of_awpD hc hm hf hb hn hn0 hck hf1 hb1 hck1 hnm1 hr1 fun args out hs hp=>by
  unfold fsp at hs
  split at hs
  ·rename_i a ha
   cases hs
   rw [A.ok _ _ ha]
   exact h a (hp _ (by simp))
  ·cases hs
end
open Go.RowKit
section
variable {P:Program} {c:Cx} {w w0:World} {e:Env} {fz:Nat→Prop} {M:ij} {st:AS} {a:Act} {f:FuncId}
theorem D5 : ∀{l:List PV} {K:List Nat} {t:Nat} {p:PV},cP K l=true→l[t]? =some p→p.idIn K=true
 | [],_,_,_,_,h=>by simp at h
 | q::r,K,0,p,hi,h=>by
   unfold cP at hi
   rw [Bool.and_eq_true] at hi
   simp only [List.getElem?_cons_zero,Option.some.injEq] at h
   exact h ▸ hi.1
 | q::r,K,t+1,p,hi,h=>by
   unfold cP at hi
   rw [Bool.and_eq_true] at hi
   exact D5 hi.2 (by simpa using h)
end
def jf:Option Ob→Bool
 | some .gone =>true
 | _=>false
def tL:AH→AH
 | []=>[]
 | (_,.gone)::r=>tL r
 | q::r=>q::tL r
def KY (n0:Nat) (h:AH) (l:List PV) (ids:List Nat) (v:PV) (E:AH) (ρ:List Nat) (r:Prop):Prop:=
 ((nodupB ids&&ids.all fun a=>!Nat.blt a n0||jf (E.get a))&&((E.all fun q=>Nat.blt q.1 ρ.length&&q.2.idIn (List.range ρ.length)&&(!jf (some q.2)||Nat.blt q.1 n0))&&(full E ρ.length&&v.idIn (List.range ρ.length))))=true∧obs ρ h (tL E) (tj (Du l) (v.rn (look ρ))∧r)
def Ik {β:Type} (c:Cx) (rs:List ResultVar) (B:qw β) (Q:β→Prop):AEx→AS→Prop
 | .exit _,_=>False
 | _,st=>match DD c st rs with
   | some l=>match B.rd (Sw st.h st.h c.n0) (nd (eK st.h 12 l)) with
     | some x=>KY c.n0 st.h l (oa l) (B.v x) (B.eh x) (List.range c.n0++oa l) (Q x)
     | none=>False
   | none=>False
theorem lI {k:Nat} {o:Ob} : ∀{E:AH},(k,o)∈E→jf (some o)=false→(k,o)∈tL E
 | [],h,_=>by simp at h
 | (j,x)::r,h,hg=>by
   rcases List.mem_cons.1 h with h | h
   ·cases h
    cases o<;>first | (simp [jf] at hg;done) | (unfold tL;exact List.mem_cons_self ..)
   ·have ih:=lI h hg
    cases x<;>unfold tL<;>first | exact ih | exact List.mem_cons_of_mem _ ih
section
variable {P:Program} {c:Cx} {f:FuncId} {fn:Func} {body:Code} {α β:Type}
theorem NOk.goE {A:je α} {pre:α→Prop} {B:α→qw β} {Q:α→β→Prop} (hc:dD P c) (hm:P.follows .mixedOrders =true) (hf:P.funcs[f]? =some fn) (hb:fn.body=some body) (hn:(fn.name=="runtime.NumGoroutine")=false) (hck:codeOk body=true)
 (h : ∀a,pre a→Nat.beq c.n0 (A.eh a).length =true∧awp c body (Ik c fn.results.toList (B a) (Q a)) ⟨A.ea a++List.replicate (fn.ntmps-(A.ea a).length) .dead,A.eh a,(A.eh a).length⟩):NOk P f (nsp A pre B Q):=by
 refine⟨⟨fn,hf,hn,by rw [hb];rfl⟩,fun H args out hs hp w e vals hz hob hon hlv hbd hdis hl=>?_⟩
 unfold nsp at hs
 split at hs
 ·rename_i a ha
  cases hs
  obtain⟨rfl,rfl⟩:=A.ok _ _ _ ha
  obtain⟨h1,h2⟩:=h a (hp _ (by simp))
  have hn0:=Nat.eq_of_beq_eq_true h1
  refine yA hc hm hf hb hck hn0 hz hob hon hlv hbd hdis hl (fun _ _ h=>h) (fun ex st e1 a' w' hq hs'=>?_) h2
  have hq:Ik c fn.results.toList (B a) (Q a) .ret st:=by cases ex<;>first | exact hq | exact hq.elim
  generalize (A.eh a).length =n0 at hn0 hon hlv hs'
  unfold Ik at hq
  simp only [hn0] at hq
  split at hq
  ·rename_i l hlr
   split at hq
   ·rename_i x hx
    obtain⟨v,hv1,hv2⟩:=jX hc hs' hlr
    unfold KY at hq
    obtain⟨hck1,hobs⟩:=hq
    generalize oa l=ids at hck1 hobs
    obtain⟨ρ,hρ⟩ : ∃ρ,ρ=List.range n0++ids:=⟨_,rfl⟩
    rw [←hρ] at hck1 hobs
    have hlen:ρ.length=n0+ids.length:=by rw [hρ,List.length_append,List.length_range]
    have hlow : ∀k,k<n0→look ρ k=k:=fun k hk=>by
     unfold look
     rw [hρ,List.getD_eq_getElem?_getD,List.getElem?_append_left (by simpa using hk),List.getElem?_range hk];rfl
    have hhi : ∀k,n0≤k→look ρ k=look ids (k-n0):=fun k hk=>by
     unfold look
     rw [hρ,List.getD_eq_getElem?_getD,List.getElem?_append_right (by simpa using hk),List.length_range,←List.getD_eq_getElem?_getD]
    simp only [Bool.and_eq_true,List.all_eq_true,Nat.blt_eq] at hck1
    obtain⟨⟨hnd,hmv⟩,hob1,hfull,hvin⟩:=hck1
    obtain⟨⟨hsame,hQ⟩,hob2⟩:=pR hobs
    unfold full at hfull
    rw [List.all_eq_true] at hfull
    have hfull : ∀k,k<ρ.length→(((B a).eh x).get k).isSome =true:=fun k hk=>hfull k (List.mem_range.2 hk)
    have hroot : ∀k,e.on k→e1.on k∧e1.adr k=e.adr k∧e1.cap k=e.cap k∧e1.len k=e.len k:=fun k hk=>hs'.root k ((hon k).1 hk) hk
    have hst : ∀k,e.on k→k<ρ.length∧look ρ k=k:=fun k hk=>⟨by have:=(hon k).1 hk;omega,hlow k ((hon k).1 hk)⟩
    have hidx : ∀k,n0≤k→k<ρ.length→look ρ k∈ids∧k-n0<ids.length:=fun k hk hk2=>by
     have h3:k-n0<ids.length:=by omega
     refine⟨?_,h3⟩
     rw [hhi k hk]
     unfold look
     rw [List.getD_eq_getElem?_getD,List.getElem?_eq_getElem h3]
     exact List.getElem_mem h3
    obtain⟨e2,he2⟩ : ∃e2:Env,e2={ e1.rn (look ρ) ρ.length with lv:=fun k=>(k<ρ.length∧e1.lv (look ρ k))∧jf (((B a).eh x).get k)=false }:=⟨_,rfl⟩
    have hElv : ∀k,e2.lv k↔(k<ρ.length∧e1.lv (look ρ k))∧jf (((B a).eh x).get k)=false:=fun k=>by rw [he2]
    have hEon : ∀k,e2.on k↔k<ρ.length∧e1.on (look ρ k):=fun k=>by rw [he2];exact Iff.rfl
    have hEadr : ∀k,e2.adr k=e1.adr (look ρ k):=fun k=>by rw [he2];rfl
    have hEblk : ∀k b,e2.blk k b↔e1.blk (look ρ k) b:=fun k b=>by unfold Env.blk;rw [hEadr]
    have hrn:Rn (look ρ) (List.range ρ.length) e1 e2:=by
     subst he2
     exact⟨fun _ hk h=>⟨List.mem_range.1 hk,h⟩,fun _=>rfl,fun _=>rfl,fun _=>rfl,rfl⟩
    have hEfz:e2.fz=e1.fz:=by rw [he2];rfl
    refine⟨hs'.defers,v,hv1,x,hQ,v,e2,rfl,?_,?_,⟨fun b hb=>hs'.ez.sup b (by rw [←hEfz];exact hb),fun k b hk _ hb hf=>absurd (show e1.fz b by rw [←hEfz];exact hf) (hs'.ez.nf (look ρ k) b ((hElv k).1 hk).1.2 ((hEblk k b).1 hb))⟩,?_,?_,?_,?_,?_,?_⟩
    ·exact yK hrn _ _ hvin (py _ _ _ hsame hv2)
    ·refine⟨fun k hk=>(hEon k).2 ⟨(hst k hk).1,by rw [(hst k hk).2];exact (hroot k hk).1⟩,fun k hk=>?_,fun k hk=>?_,fun k hk=>?_,fun b hb=>by rw [hEfz];exact hs'.ez.sub b hb⟩
     ·rw [hEadr,(hst k hk).2];exact (hroot k hk).2.1
     ·rw [he2];show e1.cap (look ρ k)=_;rw [(hst k hk).2];exact (hroot k hk).2.2.1
     ·rw [he2];show e1.len (look ρ k)=_;rw [(hst k hk).2];exact (hroot k hk).2.2.2
    ·intro k o hk
     have hmem:=get_mem hk
     obtain⟨⟨h4,h5⟩,h6⟩:=hob1 _ hmem
     cases hg:jf (some o) with
     | true=>
       have ho:o=.gone :=by cases o<;>first | rfl | (simp [jf] at hg)
       subst ho
       have hk0:k<n0:=by simpa [jf] using h6
       refine⟨by unfold OR;trivial,(hEon k).2 ⟨h4,by rw [hlow k hk0];exact (hroot k ((hon k).2 hk0)).1⟩,fun hh=>by cases hh⟩
     | false=>
       obtain⟨y,hy,hyo⟩:=hob2 _ (lI hmem hg)
       obtain⟨g6,g7,g8⟩:=hs'.ob _ _ hy
       exact⟨yo hrn h5 (xE hyo g6),(hEon k).2 ⟨h4,g7⟩,fun hgn=>(hElv k).2 ⟨⟨h4,g8 (by rw [kF hyo,mz];exact hgn)⟩,by rw [hk];exact hg⟩⟩
    ·intro k hk
     by_cases hkH:k<n0
     ·exact .inl ((hon k).2 hkH)
     ·exact .inr ⟨Nat.le_of_not_lt hkH,hfull k ((hEon k).1 hk).1⟩
    ·intro k hk
     obtain⟨⟨hk1,hk2⟩,hk3⟩:=(hElv k).1 hk
     by_cases hkH:k<n0
     ·exact .inl ((hlv k).2 hkH)
     ·refine .inr ⟨fun h=>hkH ((hon k).1 h),(hEon k).2 ⟨hk1,hs'.lo _ hk2⟩,fun b hb=>?_⟩
      have hb:=(hEblk k b).1 hb
      refine⟨(hs'.bd (look ρ k) b hk2 hb).2,?_⟩
      rcases (hs'.bd (look ρ k) b hk2 hb).1 with h | h
      ·exact .inl h
      ·refine .inr ?_
       obtain⟨j,hj,y,hy,hyb⟩:=h
       obtain⟨q1,q2, -, -⟩:=hroot j hj
       have hj0:=(hon j).1 hj
       refine⟨j,(hlv j).2 hj0,fun hjl=>?_,y,hy,hyb⟩
       obtain⟨⟨-,hjl⟩,hjg⟩:=(hElv j).1 hjl
       rw [(hst j hj).2] at hjl
       have h3:=hs'.dis (look ρ k) j b hk2 hjl hb ⟨y,by rw [q2];exact hy,hyb⟩
       have h4:=(hidx k (Nat.le_of_not_lt hkH) hk1).1
       rw [h3] at h4
       have h5:=hmv j h4
       rw [hjg,show Nat.blt j n0=true from by rw [Nat.blt_eq];exact hj0] at h5
       cases h5
    ·intro k hk
     have hk0:=(hlv k).1 hk
     have hkr:k<ρ.length:=by omega
     obtain⟨o,ho⟩:=Option.isSome_iff_exists.1 (hfull k hkr)
     cases hg:jf (some o) with
     | true=>cases o with
       | gone=>exact .inr ho
       | _=>simp [jf] at hg
     | false=>
       obtain⟨y,hy,hyo⟩:=hob2 _ (lI (get_mem ho) hg)
       cases hgn:o.gn with
       | true=>cases o with
         | gone=>exact .inr ho
         | _=>cases hgn
       | false=>exact .inl ((hElv k).2 ⟨⟨hkr,(hs'.ob _ _ hy).2.2 (by rw [kF hyo,mz];exact hgn)⟩,by rw [ho];exact hg⟩)
    ·intro k k' b hk hk0 hk' hk0' hb hb'
     obtain⟨⟨g1,g2⟩, -⟩:=(hElv k).1 hk
     obtain⟨⟨g3,g4⟩, -⟩:=(hElv k').1 hk'
     have a1:n0≤k:=Nat.le_of_not_lt fun h=>hk0 ((hlv k).2 h)
     have a2:n0≤k':=Nat.le_of_not_lt fun h=>hk0' ((hlv k').2 h)
     have h3:=hs'.dis _ _ b g2 g4 ((hEblk k b).1 hb) ((hEblk k' b).1 hb')
     rw [hhi k a1,hhi k' a2] at h3
     have:=iA hnd (hidx k a1 g1).2 (hidx k' a2 g3).2 h3
     omega
    ·refine⟨hs'.low.os,hs'.low.tape,hs'.low.output,hs'.low.size,fun b hb hnM=>hs'.low.block b hb fun ⟨k,hk,hkb⟩=>hnM ⟨k,(hlv k).2 ((hon k).1 hk),hfull k (hst k hk).1,hkb⟩⟩
   ·exact hq.elim
  ·exact hq.elim
 ·cases hs
end
open Go.RowKit
section
variable {P:Program} {c:Cx} {w w0:World} {e:Env} {fz:Nat→Prop} {M:ij} {st:AS} {a:Act} {f:FuncId}
theorem PU (o:Ob):o.rn id=o:=by
 cases o with
 | cells l ty=>show Ob.cells (rnL id l) ty=_;rw [ol]
 | _=>rfl
def dpK (K:List Nat) (h:AH) (v:PV):PV:=if v.idIn K then v else deep h 12 v
def AV (K:List Nat) (h:AH):List PV→List PV
 | []=>[]
 | v::r=>dpK K h v::AV K h r
theorem wU (K:List Nat) (h:AH) : ∀l:List PV,AV K h l=l.map (dpK K h)
 | []=>rfl
 | v::r=>by rw [AV,wU K h r];rfl
def R3 (K:List Nat) (st:AS):Bool:=cP K (AV K (o7 K st.h) st.tm)&&(cut K st.h).all fun q=>q.2.idIn K&&!q.2.gn
end
open Go.RowKit
def Mm (n0:Nat) (K:List Nat) (st:AS):Bool:=R3 K st&&(List.range n0).all fun k=>((cut K st.h).get k).isSome
def GC (c:Cx) (K:List Nat) (Q:AEx→AS→Prop):Nat→Code→AS→Prop
 | n+1,.seq x y,st=>awp c x (fun z st'=>match z with
   | .normal =>GC c K Q n y st'
   | z=>Q z st') st
 | 0,x,st=>Mm c.n0 K st=true∧awp c x Q ⟨AV K (o7 K st.h) st.tm,cut K st.h,st.nx⟩
 | _,_,_=>False
section
variable {P:Program} {c:Cx} {w w0:World} {e:Env} {fz:Nat→Prop} {M:ij} {st:AS} {a:Act}
theorem SR.frozenG (h:SR w0 fz M st a w e) {K:List Nat} {n0:Nat} (hn:M.n=n0) (hM : ∀b,M b→∃k,k<n0∧M.e.on k∧M.e.blk k b) (hi0:Mm n0 K st=true) : ∃e',SR w0 fz M ⟨AV K (o7 K st.h) st.tm,cut K st.h,st.nx⟩ a w e':=by
 have hsee:=h.sees
 unfold Mm at hi0
 rw [Bool.and_eq_true,List.all_eq_true] at hi0
 obtain⟨hi,hgv⟩:=hi0
 unfold R3 at hi
 rw [Bool.and_eq_true,List.all_eq_true] at hi
 obtain⟨hi,hkeep⟩:=hi
 have hmem : ∀id o,(cut K st.h).get id=some o→id∈K∧st.h.get id=some o∧o.idIn K=true∧o.gn=false:=fun id o ho=>by
  obtain⟨h1,h2⟩:=pE ho
  have h3:=hkeep _ (get_mem ho)
  rw [Bool.and_eq_true] at h3
  exact⟨h1,h2,h3.1,by simpa using h3.2⟩
 have hgv : ∀k,k<n0→k∈K∧e.lv k:=fun k hk=>by
  have h1:=hgv k (List.mem_range.2 hk)
  obtain⟨o,ho⟩:=Option.isSome_iff_exists.1 h1
  obtain⟨h2,h3, -,h4⟩:=hmem k o ho
  exact⟨h2,(h.ob k o h3).2.2 h4⟩
 obtain⟨fzE,hfE⟩ : ∃fzE:Nat→Prop,fzE=fun b=>e.fz b∨(w0.heap.size≤b∧b<w.heap.size∧∀k∈K,e.lv k→¬e.blk k b):=⟨_,rfl⟩
 have hB : ∀b,fzE b↔e.fz b∨(w0.heap.size≤b∧b<w.heap.size∧∀k∈K,e.lv k→¬e.blk k b):=fun b=>by rw [hfE]
 have hle:e.Le { e with fz:=fzE }:=⟨fun _ h=>h,fun _ _=>rfl,fun _ _=>rfl,fun _ _=>rfl,fun b hb=>(hB b).2 (.inl hb)⟩
 have hsame:Same e.fz w w:=fun _ _=>rfl
 have hseeN:lO w e (o7 K st.h):=⟨fun id o' ho'=>hsee.ob id o' (mM ho').2,hsee.fz,hsee.dis⟩
 have hF:Frz w e (o7 K st.h) { e with fz:=fzE }:=⟨hle,fun id o b ho hg hb=>(hB b).2 (.inr (by
  obtain⟨hid,ho⟩:=mM ho
  have hlv:=(h.ob id o ho).2.2 hg
  obtain⟨h1,h2⟩:=h.bd id b hlv hb
  exact⟨h1.resolve_right (fun hb'=>by
   obtain⟨k,hk,hon,x,hx,hxb⟩:=hM b hb'
   have h3:=(h.root k (by rw [hn];exact hk) hon).2.1
   have h4:=h.dis id k b hlv (hgv k hk).2 hb ⟨x,by rw [h3];exact hx,hxb⟩
   exact hid (by rw [h4];exact (hgv k hk).1)),h2,fun k hk hkl hkb=>hid (by rw [h.dis id k b hlv hkl hb hkb];exact hk)⟩))⟩
 obtain⟨e',he'⟩ : ∃e':Env,e'=⟨e.adr,e.cap,e.len,fzE,fun k=>k∈K∧e.on k,fun k=>k∈K∧e.lv k⟩:=⟨_,rfl⟩
 have hrn:Rn id K { e with fz:=fzE } e':=by
  subst he'
  exact⟨fun k hk h=>⟨hk,h⟩,fun _=>rfl,fun _=>rfl,fun _=>rfl,rfl⟩
 have f1:e'.fz=fzE:=by rw [he']
 have f2 : ∀k,e'.on k↔k∈K∧e.on k:=fun k=>by rw [he']
 have f3 : ∀k,e'.lv k↔k∈K∧e.lv k:=fun k=>by rw [he']
 have f4 : ∀k b,e'.blk k b↔e.blk k b:=fun k b=>by rw [he'];exact Iff.rfl
 refine⟨e',?_,fun t p hp=>?_,fun id o ho=>?_,fun k hk=>(f2 k).2 ⟨((f3 k).1 hk).1,h.lo k ((f3 k).1 hk).2⟩,fun k hk=>h.lt k ((f2 k).1 hk).2,fun k k' b hk hk' hb hb'=>h.dis k k' b ((f3 k).1 hk).2 ((f3 k').1 hk').2 ((f4 k b).1 hb) ((f4 k' b).1 hb'),fun k b hk hb=>h.bd k b ((f3 k).1 hk).2 ((f4 k b).1 hb),
  ⟨fun b hb=>by rw [f1];exact (hB b).2 (.inl (h.ez.sub b hb)),fun b hb=>by
    rw [f1,hB] at hb
    exact hb.elim (h.ez.sup b) fun q=>.inr ⟨q.1,q.2.1⟩,fun k b hk hb hf=>by
    rw [f1,hB] at hf
    obtain⟨hkK,hkl⟩:=(f3 k).1 hk
    rcases hf with hf | hf
    ·exact h.ez.nf k b hkl ((f4 k b).1 hb) hf
    ·exact hf.2.2 k hkK hkl ((f4 k b).1 hb)⟩,h.fzb,h.low,fun k hk ho=>by
    obtain⟨q1,q2,q3,q4⟩:=h.root k hk ho
    exact⟨(f2 k).2 ⟨(hgv k (by rw [←hn];exact hk)).1,q1⟩,by rw [he'];exact q2,by rw [he'];exact q3,by rw [he'];exact q4⟩,h.defers⟩
 ·show a.tmps.size=(AV K (o7 K st.h) st.tm).length
  rw [wU,List.length_map]
  exact h.size
 ·have hq:=D5 hi hp
  have hp:(AV K (o7 K st.h) st.tm)[t]? =some p:=hp
  rw [wU,List.getElem?_map,Option.map_eq_some_iff] at hp
  obtain⟨q,h1,rfl⟩:=hp
  refine yK hrn _ _ hq ?_
  rw [Hv]
  unfold dpK
  split
  ·exact jt hsame hle q _ (h.tm t q h1)
  ·exact yB hseeN hF 12 q _ (h.tm t q h1)
 ·obtain⟨hk,ho,hin,hg⟩:=hmem id o ho
  obtain⟨a1,a2,a3⟩:=h.ob id o ho
  have h5:OR w { e with fz:=fzE } id o:=rV hsame hle a2 (fun b hb=>⟨fun hf=>((hB b).1 hf).elim (fun h=>h) fun q=>absurd hb (q.2.2 _ hk (a3 hg)),rfl⟩) a1
  exact⟨yo hrn hin (by rw [PU];exact h5),(f2 id).2 ⟨hk,a2⟩,fun _=>(f3 id).2 ⟨hk,a3 hg⟩⟩
theorem JF (hc:dD P c) (hm:P.follows .mixedOrders =true) (hMn:M.n=c.n0) (hMb : ∀b,M b→∃k,k<c.n0∧M.e.on k∧M.e.blk k b) {L:List Nat} {Q:AEx→AS→Prop} {K:Exit→Act→World→Prop}
 (h0 : ∀x st a w e,SR w0 fz M st a w e→Q x st→K x.of a w) :
 ∀(n:Nat) (b:Code),codeOk b=true→∀(st:AS) (a:Act) (w:World) (e:Env),GC c L Q n b st→SR w0 fz M st a w e→b.wp P K a w:=by
 have plain : ∀{Q:AEx→AS→Prop} {K:Exit→Act→World→Prop} (_ : ∀x st a w e,SR w0 fz M st a w e→Q x st→K x.of a w) (b:Code),codeOk b=true→∀(st:AS) (a:Act) (w:World) (e:Env),awp c b Q st→SR w0 fz M st a w e→b.wp P K a w:=fun {Q K} h0 b hk st a w e h hs=>by
  refine wp_mono (fS hc hm hMn b hk _ _ _ w e h hs) ?_
  intro x' a' w' hq
  cases x' with
  | normal=>obtain⟨st',e',g1,g2⟩:=hq;exact h0 .normal _ _ _ _ g1 g2
  | ret=>obtain⟨st',e',g1,g2⟩:=hq;exact h0 .ret _ _ _ _ g1 g2
  | exit id=>obtain⟨st',e',g1,g2⟩:=hq;exact h0 (.exit id) _ _ _ _ g1 g2
  | goto l=>exact hq.elim
  | panic ch=>exact hq.elim
  | outgrown=>exact hq.elim
 intro n
 induction n with
 | zero=>
   intro b hk st a w e h hs
   have h:Mm c.n0 L st=true∧awp c b Q ⟨AV L (o7 L st.h) st.tm,cut L st.h,st.nx⟩:=by cases b<;>exact h
   obtain⟨e2,hs2⟩:=hs.frozenG hMn hMb h.1
   exact plain h0 b hk _ _ _ _ h.2 hs2
 | succ n ih=>
   intro b hk st a w e h hs
   cases b with
   | seq x y=>
     unfold codeOk at hk
     rw [Bool.and_eq_true] at hk
     refine wp_seq (plain (K:=Exit.then (Code.wp P y K) K) (fun z st' a' w' e' hs' hq=>?_) x hk.1 st a w e h hs)
     cases z with
     | normal=>exact ih y hk.2 st' a' w' e' hq hs'
     | ret=>exact h0 .ret _ _ _ _ hs' hq
     | exit id=>exact h0 (.exit id) _ _ _ _ hs' hq
   | _=>exact h.elim
theorem HN (hc:dD P c) (hm:P.follows .mixedOrders =true) {f:FuncId} {fn:Func} {body:Code} (hf:P.funcs[f]? =some fn) (hb:fn.body=some body) (hck:codeOk body=true) {H:AH} {args:List PV} (hn0:c.n0=H.length)
 {e:Env} {vals:Array Value} (hz:FzW w e.fz) (hob : ∀id o,H.get id=some o→OR w e id o∧e.on id) (hon : ∀k,e.on k↔k<H.length) (hlv : ∀k,e.lv k↔k<H.length) (hbd : ∀k b,e.on k→e.blk k b→b<w.heap.size∧¬e.fz b)
 (hdis : ∀k k' b,e.on k→e.on k'→e.blk k b→e.blk k' b→k=k') (hl0:Rs w e args vals.toList)
 {Qr:AEx→AS→Prop} {Pf:Ending→World→Prop} (hx : ∀id st,¬Qr (.exit id) st)
 (hr : ∀ex st e1 a' w',Qr ex st→SR w e.fz ⟨fun b=>∃k,e.on k∧e.blk k b,H.length,e,[]⟩ st a' w' e1→a'.defers=[]∧∃v,(results fn a'.tmps).run P w'=.ok v w'∧Pf (.returned v) w')
 {K:List Nat} {n:Nat} (h2:GC c K Qr n body ⟨args++List.replicate (fn.ntmps-args.length) .dead,H,H.length⟩):Calls P f vals w Pf:=by
 have hlen:=bm hl0
 obtain⟨M,hM⟩ : ∃M:ij,M=⟨fun b=>∃k,e.on k∧e.blk k b,H.length,e,[]⟩:=⟨_,rfl⟩
 have hlo : ∀k,e.lv k→e.on k:=fun k hk=>(hon k).2 ((hlv k).1 hk)
 have hMn:M.n=c.n0:=by rw [hM,hn0]
 have hsr:SR w e.fz M ⟨args++List.replicate (fn.ntmps-args.length) .dead,H,H.length⟩ { tmps:=vals++Array.replicate (fn.ntmps-vals.size) undef,defers:=[] } w e:=by
  have hsz:vals.size=args.length:=by rw [←hlen];simp
  refine⟨by simp [hsz],fun t p hp=>?_,fun id o h=>⟨(hob id o h).1,(hob id o h).2,fun _=>(hlv id).2 ((hon id).1 (hob id o h).2)⟩,hlo,fun id hid=>(hon id).1 hid,fun k k' b hk hk'=>hdis k k' b (hlo k hk) (hlo k' hk'),fun k b hk hb=>⟨.inr (by subst hM;exact⟨k,hlo k hk,hb⟩),(hbd k b (hlo k hk) hb).1⟩,⟨fun _ h=>h,fun _ h=>.inl h,fun k b hk hb=>(hbd k b (hlo k hk) hb).2⟩,⟨fun b hb=>⟨hz.lt b hb,by subst hM;rintro ⟨k,hk,hkb⟩;exact (hbd k b hk hkb).2 hb⟩,hz.gl⟩,Chg.refl _ _,by subst hM;exact fun k _ hk=>⟨hk,rfl,rfl,rfl⟩,by subst hM;rfl⟩
  rw [List.getElem?_append] at hp
  split at hp
  ·rename_i ht
   obtain⟨u,h4,h5⟩:=mB hl0 hp
   have : (vals++Array.replicate (fn.ntmps-vals.size) undef).getD t undef=u:=by
    rw [Array.getD_eq_getD_getElem?,Array.getElem?_append_left (by rw [hsz];exact ht)]
    have : vals[t]? =some u:=by simpa using h4
    rw [this];rfl
   show R w _ p ((vals++Array.replicate (fn.ntmps-vals.size) undef).getD t undef)
   rw [this]
   exact h5
  ·rw [List.getElem?_replicate] at hp
   split at hp
   ·cases hp;unfold R;trivial
   ·cases hp
 have hMb : ∀b,M b→∃k,k<c.n0∧M.e.on k∧M.e.blk k b:=fun b hb=>by
  subst hM
  obtain⟨k,hk,hkb⟩:=hb
  exact⟨k,by rw [hn0];exact (hon k).1 hk,hk,hkb⟩
 refine calls_of_wp hf hb (JF hc hm hMn hMb (fun x st a' w' e1 hs' hq=>?_) n body hck _ _ w _ h2 hsr)
 cases x with
 | normal=>subst hM;exact hr _ _ _ _ _ hq hs'
 | ret=>subst hM;exact hr _ _ _ _ _ hq hs'
 | exit id=>exact (hx _ _ hq).elim
end
section
variable {P:Program} {c:Cx} {f:FuncId} {fn:Func} {body:Code} {α β:Type}
theorem NOk.goEK (n:Nat) (K:List Nat) {A:je α} {pre:α→Prop} {B:α→qw β} {Q:α→β→Prop} (hc:dD P c) (hm:P.follows .mixedOrders =true) (hf:P.funcs[f]? =some fn) (hb:fn.body=some body) (hn:(fn.name=="runtime.NumGoroutine")=false) (hck:codeOk body=true)
 (h : ∀a,pre a→Nat.beq c.n0 (A.eh a).length =true∧GC c K (Ik c fn.results.toList (B a) (Q a)) n body ⟨A.ea a++List.replicate (fn.ntmps-(A.ea a).length) .dead,A.eh a,(A.eh a).length⟩):NOk P f (nsp A pre B Q):=by
 refine⟨⟨fn,hf,hn,by rw [hb];rfl⟩,fun H args out hs hp w e vals hz hob hon hlv hbd hdis hl=>?_⟩
 unfold nsp at hs
 split at hs
 ·rename_i a ha
  cases hs
  obtain⟨rfl,rfl⟩:=A.ok _ _ _ ha
  obtain⟨h1,h2⟩:=h a (hp _ (by simp))
  have hn0:=Nat.eq_of_beq_eq_true h1
  refine HN hc hm hf hb hck hn0 hz hob hon hlv hbd hdis hl (fun _ _ h=>h) (fun ex st e1 a' w' hq hs'=>?_) h2
  have hq:Ik c fn.results.toList (B a) (Q a) .ret st:=by cases ex<;>first | exact hq | exact hq.elim
  generalize (A.eh a).length =n0 at hn0 hon hlv hs'
  unfold Ik at hq
  simp only [hn0] at hq
  split at hq
  ·rename_i l hlr
   split at hq
   ·rename_i x hx
    obtain⟨v,hv1,hv2⟩:=jX hc hs' hlr
    unfold KY at hq
    obtain⟨hck1,hobs⟩:=hq
    generalize oa l=ids at hck1 hobs
    obtain⟨ρ,hρ⟩ : ∃ρ,ρ=List.range n0++ids:=⟨_,rfl⟩
    rw [←hρ] at hck1 hobs
    have hlen:ρ.length=n0+ids.length:=by rw [hρ,List.length_append,List.length_range]
    have hlow : ∀k,k<n0→look ρ k=k:=fun k hk=>by
     unfold look
     rw [hρ,List.getD_eq_getElem?_getD,List.getElem?_append_left (by simpa using hk),List.getElem?_range hk];rfl
    have hhi : ∀k,n0≤k→look ρ k=look ids (k-n0):=fun k hk=>by
     unfold look
     rw [hρ,List.getD_eq_getElem?_getD,List.getElem?_append_right (by simpa using hk),List.length_range,←List.getD_eq_getElem?_getD]
    simp only [Bool.and_eq_true,List.all_eq_true,Nat.blt_eq] at hck1
    obtain⟨⟨hnd,hmv⟩,hob1,hfull,hvin⟩:=hck1
    obtain⟨⟨hsame,hQ⟩,hob2⟩:=pR hobs
    unfold full at hfull
    rw [List.all_eq_true] at hfull
    have hfull : ∀k,k<ρ.length→(((B a).eh x).get k).isSome =true:=fun k hk=>hfull k (List.mem_range.2 hk)
    have hroot : ∀k,e.on k→e1.on k∧e1.adr k=e.adr k∧e1.cap k=e.cap k∧e1.len k=e.len k:=fun k hk=>hs'.root k ((hon k).1 hk) hk
    have hst : ∀k,e.on k→k<ρ.length∧look ρ k=k:=fun k hk=>⟨by have:=(hon k).1 hk;omega,hlow k ((hon k).1 hk)⟩
    have hidx : ∀k,n0≤k→k<ρ.length→look ρ k∈ids∧k-n0<ids.length:=fun k hk hk2=>by
     have h3:k-n0<ids.length:=by omega
     refine⟨?_,h3⟩
     rw [hhi k hk]
     unfold look
     rw [List.getD_eq_getElem?_getD,List.getElem?_eq_getElem h3]
     exact List.getElem_mem h3
    obtain⟨e2,he2⟩ : ∃e2:Env,e2={ e1.rn (look ρ) ρ.length with lv:=fun k=>(k<ρ.length∧e1.lv (look ρ k))∧jf (((B a).eh x).get k)=false }:=⟨_,rfl⟩
    have hElv : ∀k,e2.lv k↔(k<ρ.length∧e1.lv (look ρ k))∧jf (((B a).eh x).get k)=false:=fun k=>by rw [he2]
    have hEon : ∀k,e2.on k↔k<ρ.length∧e1.on (look ρ k):=fun k=>by rw [he2];exact Iff.rfl
    have hEadr : ∀k,e2.adr k=e1.adr (look ρ k):=fun k=>by rw [he2];rfl
    have hEblk : ∀k b,e2.blk k b↔e1.blk (look ρ k) b:=fun k b=>by unfold Env.blk;rw [hEadr]
    have hrn:Rn (look ρ) (List.range ρ.length) e1 e2:=by
     subst he2
     exact⟨fun _ hk h=>⟨List.mem_range.1 hk,h⟩,fun _=>rfl,fun _=>rfl,fun _=>rfl,rfl⟩
    have hEfz:e2.fz=e1.fz:=by rw [he2];rfl
    refine⟨hs'.defers,v,hv1,x,hQ,v,e2,rfl,?_,?_,⟨fun b hb=>hs'.ez.sup b (by rw [←hEfz];exact hb),fun k b hk _ hb hf=>absurd (show e1.fz b by rw [←hEfz];exact hf) (hs'.ez.nf (look ρ k) b ((hElv k).1 hk).1.2 ((hEblk k b).1 hb))⟩,?_,?_,?_,?_,?_,?_⟩
    ·exact yK hrn _ _ hvin (py _ _ _ hsame hv2)
    ·refine⟨fun k hk=>(hEon k).2 ⟨(hst k hk).1,by rw [(hst k hk).2];exact (hroot k hk).1⟩,fun k hk=>?_,fun k hk=>?_,fun k hk=>?_,fun b hb=>by rw [hEfz];exact hs'.ez.sub b hb⟩
     ·rw [hEadr,(hst k hk).2];exact (hroot k hk).2.1
     ·rw [he2];show e1.cap (look ρ k)=_;rw [(hst k hk).2];exact (hroot k hk).2.2.1
     ·rw [he2];show e1.len (look ρ k)=_;rw [(hst k hk).2];exact (hroot k hk).2.2.2
    ·intro k o hk
     have hmem:=get_mem hk
     obtain⟨⟨h4,h5⟩,h6⟩:=hob1 _ hmem
     cases hg:jf (some o) with
     | true=>
       have ho:o=.gone :=by cases o<;>first | rfl | (simp [jf] at hg)
       subst ho
       have hk0:k<n0:=by simpa [jf] using h6
       refine⟨by unfold OR;trivial,(hEon k).2 ⟨h4,by rw [hlow k hk0];exact (hroot k ((hon k).2 hk0)).1⟩,fun hh=>by cases hh⟩
     | false=>
       obtain⟨y,hy,hyo⟩:=hob2 _ (lI hmem hg)
       obtain⟨g6,g7,g8⟩:=hs'.ob _ _ hy
       exact⟨yo hrn h5 (xE hyo g6),(hEon k).2 ⟨h4,g7⟩,fun hgn=>(hElv k).2 ⟨⟨h4,g8 (by rw [kF hyo,mz];exact hgn)⟩,by rw [hk];exact hg⟩⟩
    ·intro k hk
     by_cases hkH:k<n0
     ·exact .inl ((hon k).2 hkH)
     ·exact .inr ⟨Nat.le_of_not_lt hkH,hfull k ((hEon k).1 hk).1⟩
    ·intro k hk
     obtain⟨⟨hk1,hk2⟩,hk3⟩:=(hElv k).1 hk
     by_cases hkH:k<n0
     ·exact .inl ((hlv k).2 hkH)
     ·refine .inr ⟨fun h=>hkH ((hon k).1 h),(hEon k).2 ⟨hk1,hs'.lo _ hk2⟩,fun b hb=>?_⟩
      have hb:=(hEblk k b).1 hb
      refine⟨(hs'.bd (look ρ k) b hk2 hb).2,?_⟩
      rcases (hs'.bd (look ρ k) b hk2 hb).1 with h | h
      ·exact .inl h
      ·refine .inr ?_
       obtain⟨j,hj,y,hy,hyb⟩:=h
       obtain⟨q1,q2, -, -⟩:=hroot j hj
       have hj0:=(hon j).1 hj
       refine⟨j,(hlv j).2 hj0,fun hjl=>?_,y,hy,hyb⟩
       obtain⟨⟨-,hjl⟩,hjg⟩:=(hElv j).1 hjl
       rw [(hst j hj).2] at hjl
       have h3:=hs'.dis (look ρ k) j b hk2 hjl hb ⟨y,by rw [q2];exact hy,hyb⟩
       have h4:=(hidx k (Nat.le_of_not_lt hkH) hk1).1
       rw [h3] at h4
       have h5:=hmv j h4
       rw [hjg,show Nat.blt j n0=true from by rw [Nat.blt_eq];exact hj0] at h5
       cases h5
    ·intro k hk
     have hk0:=(hlv k).1 hk
     have hkr:k<ρ.length:=by omega
     obtain⟨o,ho⟩:=Option.isSome_iff_exists.1 (hfull k hkr)
     cases hg:jf (some o) with
     | true=>cases o with
       | gone=>exact .inr ho
       | _=>simp [jf] at hg
     | false=>
       obtain⟨y,hy,hyo⟩:=hob2 _ (lI (get_mem ho) hg)
       cases hgn:o.gn with
       | true=>cases o with
         | gone=>exact .inr ho
         | _=>cases hgn
       | false=>exact .inl ((hElv k).2 ⟨⟨hkr,(hs'.ob _ _ hy).2.2 (by rw [kF hyo,mz];exact hgn)⟩,by rw [ho];exact hg⟩)
    ·intro k k' b hk hk0 hk' hk0' hb hb'
     obtain⟨⟨g1,g2⟩, -⟩:=(hElv k).1 hk
     obtain⟨⟨g3,g4⟩, -⟩:=(hElv k').1 hk'
     have a1:n0≤k:=Nat.le_of_not_lt fun h=>hk0 ((hlv k).2 h)
     have a2:n0≤k':=Nat.le_of_not_lt fun h=>hk0' ((hlv k').2 h)
     have h3:=hs'.dis _ _ b g2 g4 ((hEblk k b).1 hb) ((hEblk k' b).1 hb')
     rw [hhi k a1,hhi k' a2] at h3
     have:=iA hnd (hidx k a1 g1).2 (hidx k' a2 g3).2 h3
     omega
    ·refine⟨hs'.low.os,hs'.low.tape,hs'.low.output,hs'.low.size,fun b hb hnM=>hs'.low.block b hb fun ⟨k,hk,hkb⟩=>hnM ⟨k,(hlv k).2 ((hon k).1 hk),hfull k (hst k hk).1,hkb⟩⟩
   ·exact hq.elim
  ·exact hq.elim
 ·cases hs
end
end Ax
end Go.Proofs.YtjjonmhpgkahoaaGreatDoor
