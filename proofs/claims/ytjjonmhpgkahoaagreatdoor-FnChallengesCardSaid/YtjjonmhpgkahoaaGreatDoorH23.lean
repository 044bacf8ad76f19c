/-
  Scores of letters, of words, of plays of the impl package.
  Conditions: none.
-/
import Derived.Test.YtjjonmhpgkahoaaGreatDoorH20
import Derived.MapKept
import Derived.Test.YtjjonmhpgkahoaaGreatDoorH16
set_option linter.unusedSimpArgs false
set_option linter.unusedVariables false
namespace Go.Proofs.YtjjonmhpgkahoaaGreatDoor
open Go.RowKit
set_option maxHeartbeats 2000000
set_option maxRecDepth 100000
def qS:Value:=.func (.func 323) #[] #[]
def tD:Value:=.func (.func 324) #[] #[]
def sC:Obj:=.map #[⟨.int .u8 50,qS,0⟩,⟨.int .u8 51,tD,1⟩] 2
theorem KX (x:Int) (w:World) (h0:0≤x) (h1:x≤20) :
 Calls Tryz.prog 323 #[.int .i64 x] w fun e w'=>e=.returned (.int .i64 (2*x))∧w=w':=by
 go_enter Tryz.func323,Tryz.ntmps323
 go_wp2_with (fail)
 go_ret
 exact⟨rfl,rfl⟩
theorem KF (x:Int) (w:World) (h0:0≤x) (h1:x≤20) :
 Calls Tryz.prog 324 #[.int .i64 x] w fun e w'=>e=.returned (.int .i64 (3*x))∧w=w':=by
 go_enter Tryz.func324,Tryz.ntmps324
 go_wp2_with (fail)
 go_ret
 exact⟨rfl,rfl⟩
theorem Iz (w:World) (o o':Obj):({ w.alloc o with heap:=(w.alloc o).heap.setIfInBounds w.heap.size o' } : World)=w.alloc o':=by
 have e:(w.alloc o).heap.setIfInBounds w.heap.size o'=(w.alloc o').heap :=by
  show (w.heap.push o).setIfInBounds w.heap.size o'=w.heap.push o'
  apply Array.ext
  ·simp
  ·intro i h1 h2
   rw [Array.getElem_setIfInBounds (by simpa using h1),Array.getElem_push,Array.getElem_push]
   simp at h1 h2
   split<;>split<;>first | rfl | omega
 rw [e]
 rfl
theorem Hq (w:World) (es:Array MapEntry) (clock:Nat) (k:Int) (v:Value) (hn:Instr.findNow (.int .u8) (.int .u8 k) es.toList 0=some none) :
 (Instr.mapUpdate 286 (.map (some w.heap.size)) (.int .u8 k) v).run Tryz.prog (w.alloc (.map es clock))=.ok () (w.alloc (.map (es.push ⟨.int .u8 k,v,clock⟩) (clock+1))):=by
 have hg:(w.alloc (.map es clock)).heap[w.heap.size]? =some (.map es clock):=(MapKept.heap_alloc w _).1
 have hm:=Tryz.underlying286
 have hd:=Tryz.underlying5
 have hk:MapKept.IsKey (.int .u8) (.int .u8 k):=rfl
 simp [Instr.mapUpdate,run_underlying hm,MapKept.run_getObj_map hg,MapKept.run_checkKey hd hk,MapKept.run_findKey hd hn,MapKept.run_setObj_map _ hg,Result.andThen]
 exact Iz w _ _
theorem iC (w:World) :
 Calls Tryz.prog 305 #[] w fun e w'=>e=.returned (.map (some w.heap.size))∧w'=w.alloc sC:=by
 have m0:=run_makeMap (P:=Tryz.prog) 286 w
 have m1:=Hq w #[] 0 50 qS rfl
 have m2:=Hq w #[⟨.int .u8 50,qS,0⟩] 1 51 tD rfl
 simp only [qS,tD] at m1 m2
 go_enter Tryz.func305,Tryz.ntmps305
 go_wp2_with (fail)
 go_ret
 exact⟨rfl,rfl⟩
theorem CL (w:World) (g:Nat) (k:Int) (i:Nat) (v:Value) (hg:w.heap[g]? =some sC) (hn:Instr.findNow (.int .u8) (.int .u8 k) [⟨.int .u8 50,qS,0⟩,⟨.int .u8 51,tD,1⟩] 0=some (some (i,v))) :
 (Instr.lookup 286 (.map (some g)) (.int .u8 k) true).run Tryz.prog w=.ok (.tuple #[v,.bool true]) w:=by
 have hm:=Tryz.underlying286
 have hd:=Tryz.underlying5
 have hk:MapKept.IsKey (.int .u8) (.int .u8 k):=rfl
 simp [Instr.lookup,run_underlying hm,MapKept.run_getObj_map hg,MapKept.run_checkKey hd hk,MapKept.run_findKey hd hn,Result.andThen]
theorem HU (w:World) (g:Nat) (k:Int) (hg:w.heap[g]? =some sC) (hn:Instr.findNow (.int .u8) (.int .u8 k) [⟨.int .u8 50,qS,0⟩,⟨.int .u8 51,tD,1⟩] 0=some none) :
 (Instr.lookup 286 (.map (some g)) (.int .u8 k) true).run Tryz.prog w=.ok (.tuple #[.nilFunc,.bool false]) w:=by
 have hm:=Tryz.underlying286
 have hd:=Tryz.underlying5
 have hk:MapKept.IsKey (.int .u8) (.int .u8 k):=rfl
 have hz:(zeroValue 92).run Tryz.prog w=.ok .nilFunc w:=rfl
 simp [Instr.lookup,run_underlying hm,MapKept.run_getObj_map hg,MapKept.run_checkKey hd hk,MapKept.run_findKey hd hn,Result.andThen,hz]
theorem yL (x0 x1 x2 x3:Value) (l p:UInt8) (V:Int) (v0:0≤V) (v1:V≤20) (w:World) (kv : ∀W,Below w.heap.size w W→Calls Tryz.prog 252 #[.agg #[x0,x1,x2,x3],bv l] W fun e w'=>e=.returned (.int .i64 V)∧Below W.heap.size W w') :
 Calls Tryz.prog 267 #[.agg #[x0,x1,x2,x3],bv l,bv p] w fun e w'=>e=.returned (.int .i64 (ltF p*V))∧Below w.heap.size w w':=by
 have hbW:=(Below.refl w.heap.size w).alloc (Nat.le_refl _) (.cells #[x0,x1,x2,x3] 26)
 have hB:=Blk.new w 26 #[x0,x1,x2,x3]
 obtain⟨W,hW⟩ : ∃W,W=w.alloc (.cells #[x0,x1,x2,x3] 26):=⟨_,rfl⟩
 rw [←hW] at hbW hB
 have kvW:=kv W hbW
 clear kv
 have d0:W.cell? ⟨w.heap.size,0,none⟩=some x0:=hB.cell 0
 have d1:W.cell? ⟨w.heap.size,1,none⟩=some x1:=hB.cell 1
 have d2:W.cell? ⟨w.heap.size,2,none⟩=some x2:=hB.cell 2
 have d3:W.cell? ⟨w.heap.size,3,none⟩=some x3:=hB.cell 3
 have hlk : ∀w1:World,(w1.alloc sC).heap[w1.heap.size]? =some sC:=fun w1=>(MapKept.heap_alloc w1 _).1
 by_cases h2:p=50
 ·subst h2
  have hres:ltF 50*V=2*V:=rfl
  rw [hres]
  have hlk : ∀w1:World,(Instr.lookup 286 (.map (some w1.heap.size)) (bv 50) true).run Tryz.prog (w1.alloc sC)=.ok (.tuple #[qS,.bool true]) (w1.alloc sC):=fun w1=>CL (w1.alloc sC) w1.heap.size 50 0 qS (hlk w1) rfl
  simp only [qS] at hlk
  go_enter Tryz.func267,Tryz.ntmps267
  go_wp2_with (first
   | (go_at_call 252;rw [←hW];refine kvW.mono ?_;rintro e w1 ⟨rfl,hb1⟩)
   | (go_at_call 305;refine (iC _).mono ?_;rintro e w2 ⟨rfl,rfl⟩;have hlk:=hlk w1)
   | (go_at_call 323;refine (KX V _ v0 v1).mono ?_;rintro e w3 ⟨rfl,rfl⟩))
  go_ret
  exact⟨rfl,hbW.trans ((hb1.alloc hb1.size _).mono hbW.size)⟩
 ·by_cases h3:p=51
  ·subst h3
   have hres:ltF 51*V=3*V:=rfl
   rw [hres]
   have hlk : ∀w1:World,(Instr.lookup 286 (.map (some w1.heap.size)) (bv 51) true).run Tryz.prog (w1.alloc sC)=.ok (.tuple #[tD,.bool true]) (w1.alloc sC):=fun w1=>CL (w1.alloc sC) w1.heap.size 51 1 tD (hlk w1) rfl
   simp only [tD] at hlk
   go_enter Tryz.func267,Tryz.ntmps267
   go_wp2_with (first
    | (go_at_call 252;rw [←hW];refine kvW.mono ?_;rintro e w1 ⟨rfl,hb1⟩)
    | (go_at_call 305;refine (iC _).mono ?_;rintro e w2 ⟨rfl,rfl⟩;have hlk:=hlk w1)
    | (go_at_call 324;refine (KF V _ v0 v1).mono ?_;rintro e w3 ⟨rfl,rfl⟩))
   go_ret
   exact⟨rfl,hbW.trans ((hb1.alloc hb1.size _).mono hbW.size)⟩
  ·have hres:ltF p*V=V:=by
    have e2:(p==50)=false:=by simpa using h2
    have e3:(p==51)=false:=by simpa using h3
    unfold ltF
    rw [e2,e3]
    simp
   rw [hres]
   have q2:((p.toNat:Int)==50)=false:=by
    have : ¬p.toNat=50:=fun e=>h2 (UInt8.toNat_inj.1 e)
    simp;omega
   have q3:((p.toNat:Int)==51)=false:=by
    have : ¬p.toNat=51:=fun e=>h3 (UInt8.toNat_inj.1 e)
    simp;omega
   have hn:Instr.findNow (.int .u8) (.int .u8 (p.toNat:Int)) [⟨.int .u8 50,qS,0⟩,⟨.int .u8 51,tD,1⟩] 0=some none:=by
    simp [Instr.findNow,Instr.sameNow,q2,q3]
   have hlk : ∀w1:World,(Instr.lookup 286 (.map (some w1.heap.size)) (bv p) true).run Tryz.prog (w1.alloc sC)=.ok (.tuple #[.nilFunc,.bool false]) (w1.alloc sC):=fun w1=>HU (w1.alloc sC) w1.heap.size (p.toNat:Int) (hlk w1) hn
   clear hn q2 q3
   go_enter Tryz.func267,Tryz.ntmps267
   go_wp2_with (first
    | (go_at_call 252;rw [←hW];refine kvW.mono ?_;rintro e w1 ⟨rfl,hb1⟩)
    | (go_at_call 305;refine (iC _).mono ?_;rintro e w2 ⟨rfl,rfl⟩;have hlk:=hlk w1))
   go_ret
   exact⟨rfl,hbW.trans ((hb1.alloc hb1.size _).mono hbW.size)⟩
namespace Ax
def yn (t:TS) (l p:Int):Int:=ltF (u8 p)*cI t (u8 l)
def yj (p:Pr):aa:=fsp (ac (aA aTs) (ac aC (a1 aC))) (fun (t,l,q)=>p.inK .u8 l∧p.inK .u8 q∧er t) (fun (t,l,q)=>.i .i64 (yn t l q))
theorem I8:FOk Tryz.prog 267 (yj std):=by
 refine FOk.of_calls Tryz.func267 rfl rfl fun ⟨t,l,q⟩ hp w e vals hz hl=>?_
 obtain⟨hl8,hq8,ht⟩:std.inK .u8 l∧std.inK .u8 q∧er t:=hp
 obtain⟨u,v,x,hv,h1,h2,h3⟩:=Rs3 hl
 rw [eW hv]
 have h2':v=bv (u8 l):=by unfold R at h2;rw [h2];unfold bv;rw [Eh hl8]
 have h3':x=bv (u8 q):=by unfold R at h3;rw [h3];unfold bv;rw [Eh hq8]
 have h1':=h1
 change R w e (.agg (tsK t (.rsl [.i .i64] t.values) (.rsl [.i .i64] t.counts))) u at h1'
 unfold R at h1'
 obtain⟨vs,hu,h4⟩:=h1'
 obtain⟨x0,x1,x2,x3,hvs⟩ : ∃x0 x1 x2 x3,vs=#[x0,x1,x2,x3]:=by
  have h5:=bm h4
  match hvs:vs.toList,h5 with
  | [a,b,c,d],_=>exact⟨a,b,c,d,eW hvs⟩
 subst hvs hu
 have kv : ∀W,Below w.heap.size w W→Calls Tryz.prog 252 #[.agg #[x0,x1,x2,x3],bv (u8 l)] W fun en w'=>en=.returned (.int .i64 (cI t (u8 l)))∧Below W.heap.size W w':=fun W hW=>by
  have hs:Same e.fz w W:=fun b hb=>hW.block b (hz.lt b hb)
  have hzW:FzW W e.fz:=⟨fun b hb=>Nat.lt_of_lt_of_le (hz.lt b hb) hW.size,hz.gl.chg (M:=fun _=>False) (Chg.of_below hW) fun b hb=>⟨hz.lt b hb,id⟩⟩
  have hr:=oe.run [.agg (tsK t (.rsl [.i .i64] t.values) (.rsl [.i .i64] t.counts)),.i .u8 l] ⟨[std.inK .u8 l∧er t],.i .i64 (cI t (u8 l)),[]⟩ rfl (fun p hp=>by rw [List.mem_singleton.1 hp];exact⟨hl8,ht⟩) W e #[.agg #[x0,x1,x2,x3],bv (u8 l)] hzW (by
   have:=gD hs (.refl e) [.agg (tsK t (.rsl [.i .i64] t.values) (.rsl [.i .i64] t.counts)),.i .u8 l] [.agg #[x0,x1,x2,x3],v] (by unfold Rs;exact⟨_,_,rfl,h1,by unfold Rs;exact⟨_,_,rfl,h2,by unfold Rs;rfl⟩⟩)
   rw [h2'] at this
   exact this)
  refine hr.mono ?_
  rintro en w' ⟨y,e',rfl,hP⟩
  have hy:y=.int .i64 (cI t (u8 l)):=by have:=hP.val;unfold R at this;exact this
  subst hy
  exact⟨rfl,⟨hP.chg.os,hP.chg.tape,hP.chg.output,hP.chg.size,fun b hb=>hP.chg.block b hb fun ⟨k,hk,_⟩=>hk.elim⟩⟩
 rw [h2',h3']
 refine (yL x0 x1 x2 x3 (u8 l) (u8 q) (cI t (u8 l)) (ht.lo _) (ht.hi _) w kv).mono ?_
 rintro en w' ⟨rfl,hb⟩
 exact⟨_,rfl,fun w e=>by unfold R;rfl,hb⟩
end Ax
end Go.Proofs.YtjjonmhpgkahoaaGreatDoor
namespace Go.Proofs.YtjjonmhpgkahoaaGreatDoor
namespace Ax
set_option maxRecDepth 100000
set_option maxHeartbeats 20000000
structure StC (g:Gm):Prop where
 gm:GmL g
 own:GmP g
structure VT (g:Gm) (n:Int):Prop where
 b:StC g
 c:chC g n=0
section
variable {g:Gm} {n:Int}
theorem ce1 (hc:chC g n=0) (h:std.eqI (aO g n) 0=false):False:=by
 have h1:=dI h
 unfold chC at hc
 rw [if_neg h1] at hc
 exact h1 hc
theorem ce2 (hc:chC g n=0) (h:std.eqI (aO g n) 0=true) (h2:eN g=false):False:=by
 have h1:=bV h
 unfold chC at hc
 rw [if_pos h1,h2] at hc
 exact absurd hc (by decide)
theorem Bf (hc:chC g n=0):ChF g n:=by
 by_cases h1:aO g n=0
 ·have h:std.eqI (aO g n) 0=true:=by simpa using h1
  cases h2:eN g with
  | true=>exact chf h h2
  | false=>exact (ce2 hc h h2).elim
 ·exact (ce1 hc (by simpa using h1)).elim
theorem N1 (h:ChF g n) (p z:Int) (l:La):rZ ⟨g.ts,g.lex,g.bd0,g.secs,g.rule,g.bd,g.bag,g.racks,rSc g (dV g),ckL g n,p,z,l,g.over⟩:=by
 have h1:=Gd h
 exact⟨⟨h1.en.ts,h1.en.rk,h1.en.ck,h1.en.len,h1.en.clk⟩,h1.len,h1.lo,h1.hi⟩
theorem OP (h:vUp g=true):chG g n=wdG (bp g n):=if_pos h
theorem Jd (h:vUp g=false):chG g n=rfG (bp g n) (dV g):=if_neg (by rw [h];simp)
def rfL (g:Gm) (n p z:Int) (l:La):Gm:=⟨g.ts,g.lex,g.bd0,g.secs,g.rule,g.bd,g.bag,g.racks,rSc g (dV g),ckL g n,p,z,l,g.over⟩
theorem Py (h:std.eqI g.rule 2=true):rf1 (bp g n) (dV g)=rfL g n (1-g.player) (g.zeros+1) (dA 3 g.player):=by
 have e:(bp g n).rule =2:=beq_iff_eq.1 h
 unfold rf1
 rw [if_pos e,if_pos e,if_pos e];rfl
theorem Q8 (h:std.eqI g.rule 2=false):rf1 (bp g n) (dV g)=rfL g n g.player g.zeros (dA 0 0):=by
 have e : ¬(bp g n).rule =2:=beq_eq_false_iff_ne.1 h
 unfold rf1
 rw [if_neg e,if_neg e,if_neg e];rfl
theorem O8 {p z:Int} {l:La} (h:vUp g=false) (hw:aT (bp g n)=false) (e:rf1 (bp g n) (dV g)=rfL g n p z l):chG g n=rfL g n p z l:=by
 rw [Jd h,rfG,hw,if_neg (by simp),e]
theorem GW {p z:Int} {l:La} (h:vUp g=false) (hw:aT (bp g n)=true) (e:rf1 (bp g n) (dV g)=rfL g n p z l):chG g n={ rfL g n p z l with scores:=fN (rfL g n p z l),over:=true }:=by
 rw [Jd h,rfG,hw,if_pos rfl,e]
end
def o0 (p:Pr):aa:=fsp (ac (aA aGm) (a1 aI)) (fun (g,n)=>VT g n) (fun (g,n)=>.tup [.agg (gmK ⟨g.ts,g.lex,g.bd0,g.secs,g.rule,⟨(chG g n).bd.size,(chG g n).bd.prem,(chG g n).bd.cells⟩,(chG g n).bag,(chG g n).racks,(chG g n).scores,(chG g n).clocks,(chG g n).player,(chG g n).zeros,⟨(chG g n).last.kind,(chG g n).last.player,⟨(chG g n).last.play.row,(chG g n).last.play.col,(chG g n).last.play.down,(chG g n).last.play.word⟩,(chG g n).last.before,(chG g n).last.drawn,(chG g n).last.score,(chG g n).last.zeros⟩,(chG g n).over⟩ (.osl 0) (.osl 1) (.osl 2) (.osl 3) (.osl 4) (.osl 5)),.agg [.osl 6,.osl 7,.b (vUp g),.i .i64 (dV g)],.i .i64 0]) (fun (g,n)=>[(0,.own [.i .i64] g.ts.values 2),(1,.own [.i .i64] g.ts.counts 2),(2,.own [.s] g.lex 9),(3,.own [.s] (chG g n).racks 9),(4,.own [.i .i64] (chG g n).scores 2),(5,.own [.i .i64] (chG g n).clocks 2),(6,.own [.s] (cZ g) 9),(7,.own [.s] (cC g) 9)])
theorem pc:FOk Tryz.prog 50 (o0 std):=by
 refine FOk.go (c:=cx std [(105,aG std),(142,cw std),(143,cn std),(108,aV std),(121,bH std)] [(131,bF std),(137,ee std),(132,bc std)] 0) (ae (.cons cy (.cons ig (.cons gE (.cons dk (.cons eP .nil))))) (.cons eT (.cons m4 (.cons dy .nil)))) mixed Tryz.func50 rfl rfl rfl (by kernel_rfl) ?_
 rintro ⟨g,n⟩ hp
 dsimp only at hp
 refine⟨rfl,?_⟩
 unfold aG cw cn aV bH bF ee bc
 generalize hP:std=p,hB0:aO=B0,hB1:eN=B1,hB2:vUp=B2,hB3:dV=B3,hB4:cZ=B4,hB5:cC=B5,hB6:oA=B6,hB7:pg=B7,hB8:wSs=B8,hB9:wZe=B9,hB10:wOv=B10,hB11:aT=B11,hB12:fN=B12,hB13:ckL=B13,hB14:chG=B14
 cbv
 repeat' first|refine fun (_:Unit)=>?_;cbv|refine aI2 (fun h=>?_) (fun h=>?_)<;>cbv|refine aI2 ?_ ?_|refine Or.inl (fun (_:Unit)=>?_);cbv
 all_goals subst hP hB0 hB1 hB2 hB3 hB4 hB5 hB6 hB7 hB8 hB9 hB10 hB11 hB12 hB13 hB14
 all_goals try exact fin
 all_goals try (exfalso;exact ce1 hp.c ‹_›)
 all_goals try (exfalso;exact ce2 hp.c ‹_› ‹_›)
 all_goals try (exfalso;exact absurd (show std.eqI 6 0=true by assumption) (by decide))
 all_goals have hF:=Bf hp.c
 all_goals (have hpl:=hF.sy.fa.ply;have hr2:=hF.sy.r2;have hs2:=hF.sy.fa.s;have hk2:=hF.sy.fa.k;have hck:=hF.sy.ok.clk g.player;have hcc:=hF.sy.c;have hn:=hF.sy.nb;have hlp:=Az hF;have hvp:=EM hF;have hsl:=hF.sy.ok.sc g.last.player;have hgz:=(pkf hF.ok).gz)
 all_goals first
  | exact hp.b.gm
  | exact hp.b.own
  | exact RK hF hp.b.gm.su.ws
  | exact Sj hF
  | exact⟨hk2,by show g.player=0∨g.player=1;omega,by show _≤g.clk g.player-n∧g.clk g.player-n≤_;omega⟩
  | exact⟨hr2,by show g.player=0∨g.player=1;omega⟩
  | exact⟨hlp.1,by show g.last.player<(g.scores.length:Int);omega⟩
  | exact an (by show _≤g.sc g.last.player+dV g∧g.sc g.last.player+dV g≤_;omega)
  | exact an (by show _≤1-g.player∧1-g.player≤_;omega)
  | exact an (by show _≤g.zeros+1∧g.zeros+1≤_;omega)
  | exact N1 hF _ _ _
  | (rw [OP (g:=g) (n:=n) ‹_›];rfl)
  | (rw [O8 (g:=g) (n:=n) ‹_› ‹_› (Py ‹_›)];rfl)
  | (rw [O8 (g:=g) (n:=n) ‹_› ‹_› (Q8 ‹_›)];rfl)
  | (rw [GW (g:=g) (n:=n) ‹_› ‹_› (Py ‹_›)];rfl)
  | (rw [GW (g:=g) (n:=n) ‹_› ‹_› (Q8 ‹_›)];rfl)
  | (rw [GW (g:=g) (n:=n) ‹_› ‹_› (Py ‹_›)];done)
  | (rw [GW (g:=g) (n:=n) ‹_› ‹_› (Q8 ‹_›)];done)
  | skip
end Ax
end Go.Proofs.YtjjonmhpgkahoaaGreatDoor
