/-
  A turn with a play, of the spec package, where it succeeds.
  Conditions: none.
-/
import Derived.Test.YtjjonmhpgkahoaaGreatDoorH16
set_option linter.unusedSimpArgs false
set_option linter.unusedVariables false
namespace Go.Proofs.YtjjonmhpgkahoaaGreatDoor
namespace Ax
set_option maxRecDepth 100000
set_option maxHeartbeats 20000000
structure StY (g:Gm) (q:Pl) (n:Int):Prop where
 b:ER g q
 c:bz g q n=0
def n8 (g:Gm) (q:Pl):Int:=cG g.ts g.bd q
def oH (g:Gm) (q:Pl):List UInt8:=bR (g.rk g.player) (av (bB (af g.bd q) (ab q)))
def qBd (g:Gm) (q:Pl):Bd:=fL g.bd q
def K7 (g:Gm) (q:Pl):List UInt8:=g.bag.drop (bQ g.bag (oH g q))
def yF (g:Gm) (q:Pl):List UInt8:=g.bag.take (bQ g.bag (oH g q))
def Im (g:Gm) (q:Pl):List (List UInt8):=g.racks.set g.player.toNat (au (oH g q++yF g q))
def JD (g:Gm) (q:Pl):List Int:=g.scores.set g.player.toNat (g.sc g.player+n8 g q)
def H7 (g:Gm) (n:Int):List Int:=ckL g n
def qPl (g:Gm):Int:=1-g.player
def q1 (g:Gm) (q:Pl) (n:Int):Gm:=⟨g.ts,g.lex,g.bd0,g.secs,g.rule,qBd g q,K7 g q,Im g q,JD g q,H7 g n,1-g.player,0,⟨1,g.player,q,g.bd.cells,yF g q,n8 g q,g.zeros⟩,g.over⟩
def vB (g:Gm) (q:Pl) (n:Int):Bool:=g.rule==0&&aT (q1 g q n)
def qSs (g:Gm) (q:Pl) (n:Int):List Int:=if vB g q n then fN (q1 g q n) else JD g q
def qOv (g:Gm) (q:Pl) (n:Int):Bool:=g.over||vB g q n
def qG (g:Gm) (q:Pl) (n:Int):Gm:=⟨g.ts,g.lex,g.bd0,g.secs,g.rule,⟨(qBd g q).size,(qBd g q).prem,(qBd g q).cells⟩,K7 g q,Im g q,qSs g q n,H7 g n,qPl g,0,⟨1,g.player,q,g.bd.cells,yF g q,n8 g q,g.zeros⟩,qOv g q n⟩
theorem OX {g:Gm} {q:Pl} {n:Int} (h:std.eqI (aO g n) 0=true) (hG:SyG g n) (hC:SyC g q):q1 g q n=gy g q n:=by
 have e1:oH g q=bi g q:=hC.rs
 have e2:n8 g q=bY g.ts g.bd q:=mJ h hC.v
 have e3:qBd g q=ar g.bd q:=s8 hG.ok.bd hC.v
 unfold q1 gy K7 Im JD yF H7 ckL
 rw [e3,e2,e1]
theorem T4 {g:Gm} {q:Pl} {n:Int} (hc:bz g q n=0):qG g q n=uV g q n∧n8 g q=bY g.ts g.bd q:=by
 obtain⟨h,hG,hC⟩:=lK hc
 refine⟨?_,mJ h hC.v⟩
 have e:=OX h hG hC
 have e2:vB g q n=(g.rule==0&&(au (bi g q++g.bag.take (bQ g.bag (bi g q)))).isEmpty):=by
  unfold vB
  rw [e,DL hG]
 have e3:qG g q n={ q1 g q n with scores:=if vB g q n then fN (q1 g q n) else (q1 g q n).scores,over:=g.over||vB g q n }:=rfl
 rw [e3,e,e2]
 unfold uV
 by_cases h:g.rule=0∧(au (bi g q++g.bag.take (bQ g.bag (bi g q)))).isEmpty =true
 ·rw [if_pos h,h.2,show (g.rule==0)=true by simpa using h.1]
  unfold eX fN
  simp
 ·rw [if_neg h]
  have h2:(g.rule==0&&(au (bi g q++g.bag.take (bQ g.bag (bi g q)))).isEmpty)=false:=by
   rw [Bool.eq_false_iff]
   intro h3
   rw [Bool.and_eq_true,beq_iff_eq] at h3
   exact h h3
  rw [h2]
  simp [gy]
theorem Qm {g:Gm} {q:Pl} {n:Int} (hc:bz g q n=0):rZ (q1 g q n):=by
 obtain⟨h,hG,hC⟩:=lK hc
 rw [OX h hG hC]
 exact IC hc
theorem RZ {g:Gm} {q:Pl} {n:Int} (h:std.eqI g.rule 0=false):JD g q=qSs g q n:=by
 unfold qSs vB
 rw [show (g.rule==0)=false from h];rfl
theorem ST {g:Gm} {q:Pl} {n:Int} (h:std.eqI g.rule 0=false):g.over=qOv g q n:=by
 unfold qOv vB
 rw [show (g.rule==0)=false from h];simp
theorem Tf {g:Gm} {q:Pl} {n:Int} (h:aT (q1 g q n)=false):JD g q=qSs g q n:=by
 unfold qSs vB
 rw [h];simp
theorem RP {g:Gm} {q:Pl} {n:Int} (h:aT (q1 g q n)=false):g.over=qOv g q n:=by
 unfold qOv vB
 rw [h];simp
theorem RX {g:Gm} {q:Pl} {n:Int} (h:std.eqI g.rule 0=true) (h2:aT (q1 g q n)=true):fN (q1 g q n)=qSs g q n:=by
 unfold qSs vB
 rw [show (g.rule==0)=true from h,h2];rfl
theorem SA {g:Gm} {q:Pl} {n:Int} (h:std.eqI g.rule 0=true) (h2:aT (q1 g q n)=true):true=qOv g q n:=by
 unfold qOv vB
 rw [show (g.rule==0)=true from h,h2];simp
def vK (p:Pr):aa:=fsp (ac (aA aGm) (ac (aA aPl) (a1 aI))) (fun (g,q,n)=>StY g q n) (fun (g,q,n)=>.tup [.agg (gmK ⟨g.ts,g.lex,g.bd0,g.secs,g.rule,⟨(qBd g q).size,(qBd g q).prem,(qBd g q).cells⟩,K7 g q,Im g q,qSs g q n,H7 g n,qPl g,0,⟨1,g.player,q,g.bd.cells,yF g q,n8 g q,g.zeros⟩,qOv g q n⟩ (.osl 0) (.osl 1) (.osl 2) (.osl 3) (.osl 4) (.osl 5)),.i .i64 (n8 g q),.i .i64 0]) (fun (g,q,n)=>[(0,.own [.i .i64] g.ts.values 2),(1,.own [.i .i64] g.ts.counts 2),(2,.own [.s] g.lex 9),(3,.own [.s] (Im g q) 9),(4,.own [.i .i64] (qSs g q n) 2),(5,.own [.i .i64] (H7 g n) 2)])
theorem vD:FOk Tryz.prog 41 (vK std):=by
 refine FOk.go (c:=cx std [(105,aG std),(121,bH std),(122,cW std),(123,d4 std),(124,dp std),(108,aV std),(125,aJ std),(128,cD std),(127,bG std),(126,bo std),(129,iu std),(130,eA std),(74,aQ std)] [(131,bF std),(132,bc std)] 0) (ae (.cons cy (.cons eP (.cons jN (.cons mC (.cons kN (.cons dk (.cons cB (.cons iW (.cons eQ (.cons dR (.cons ss (.cons n5 (.cons cT .nil))))))))))))) (.cons eT (.cons dy .nil))) mixed Tryz.func41 rfl rfl rfl (by kernel_rfl) ?_
 rintro ⟨g,q,n⟩ hp
 dsimp only at hp
 refine⟨rfl,?_⟩
 unfold aG bH cW d4 dp aV aJ cD bG bo iu eA aQ bF bc
 generalize hP:std=p,hB0:aO=B0,hB1:aT=B1,hB2:bK=B2,hB3:cG=B3,hB4:inR=B4,hB5:af=B5,hB6:ab=B6,hB7:bB=B7,hB8:av=B8,hB9:bR=B9,hB10:takeB=B10,hB11:bQ=B11,hB12:fL=B12,hB13:au=B13,hB14:ckL=B14,hB15:fN=B15,hB16:qBd=B16,hB17:K7=B17,hB18:Im=B18,hB19:qSs=B19,hB20:H7=B20,hB21:qPl=B21,hB22:yF=B22,hB23:n8=B23,hB24:qOv=B24
 cbv
 repeat' first|refine fun (_:Unit)=>?_;cbv|refine aI2 (fun h=>?_) (fun h=>?_)<;>cbv|refine aI2 ?_ ?_|refine Or.inl (fun (_:Unit)=>?_);cbv
 all_goals subst hP hB0 hB1 hB2 hB3 hB4 hB5 hB6 hB7 hB8 hB9 hB10 hB11 hB12 hB13 hB14 hB15 hB16 hB17 hB18 hB19 hB20 hB21 hB22 hB23 hB24
 all_goals try exact fin
 all_goals try (exfalso;exact se1 hp.c ‹_›)
 all_goals try (exfalso;exact se2 hp.c ‹_› ‹_›)
 all_goals try (exfalso;exact se3 hp.c ‹_› ‹_› ‹_› (Or.inl ‹_›))
 all_goals try (exfalso;exact se3 hp.c ‹_› ‹_› ‹_› (Or.inr ‹_›))
 all_goals try (exfalso;exact sq4 hp.c ‹_› ‹_› (Or.inl ‹_›))
 all_goals try (exfalso;exact sq4 hp.c ‹_› ‹_› (Or.inr ‹_›))
 all_goals obtain⟨hact,hG,hC⟩:=lK hp.c
 all_goals (have hpl:=hG.fa.ply;have hr2:=hG.r2;have hs2:=hG.fa.s;have hk2:=hG.fa.k;have hck:=hG.ok.clk g.player;have hsc:=hG.s;have hn:=hG.nb;have hcc:=hG.c;have hsb:=hC.sc;have hwd:=hp.b.wd)
 all_goals have h7:(oH g q).length ≤7:=by rw [show oH g q=bi g q from hC.rs];exact bP hC.rk
 all_goals have h8:bQ g.bag (oH g q)≤g.bag.length:=Nat.min_le_right _ _
 all_goals have h9:=hp.b.gm.bag
 all_goals have h10:(yF g q).length ≤7:=by show (g.bag.take (bQ g.bag (oH g q))).length ≤7;rw [List.length_take];unfold bQ;omega
 all_goals have h11:(bB (af g.bd q) (ab q)).length ≤15:=Nat.le_trans (lU (af g.bd q) (ab q)) hC.pl.on.len
 all_goals have h12:(av (bB (af g.bd q) (ab q))).length ≤15:=Nat.le_trans (Nat.le_of_eq (gM (bB (af g.bd q) (ab q)))) h11
 all_goals first
  | exact hp.b.gm
  | exact hp.b.own
  | exact hC.pl
  | exact hC.pl.fit
  | exact hC.pl.on
  | exact⟨hC.ts,hC.pl⟩
  | exact⟨hr2,by show g.player=0∨g.player=1;omega⟩
  | exact⟨hpl.1,by show g.player<(g.racks.length:Int);omega⟩
  | exact⟨hpl.1,by show g.player<(g.scores.length:Int);omega⟩
  | exact⟨hp.b.gm.bd,hp.b.gm.su.ws,hp.b.gm.rk g.player,by show q.word.length≤_;omega⟩
  | exact an (by show _≤g.sc g.player+cG g.ts g.bd q∧g.sc g.player+cG g.ts g.bd q≤_;omega)
  | exact an (by show _≤1-g.player∧1-g.player≤_;omega)
  | exact aR h9
  | exact aR (hp.b.gm.rk g.player)
  | exact aR (Nat.le_trans h7 (by decide))
  | exact aR (Nat.le_trans h11 (by decide))
  | exact aR (Nat.le_trans h12 (by decide))
  | exact Int.ofNat_le.2 h7
  | exact Int.ofNat_le.2 h8
  | exact an (by show _≤((oH g q).length : Int)+((yF g q).length : Int)∧((oH g q).length : Int)+((yF g q).length : Int)≤_;omega)
  | exact aR (n:=(oH g q++yF g q).length) (by rw [List.length_append];omega)
  | exact⟨hk2,by show g.player=0∨g.player=1;omega,by show _≤g.clk g.player-n∧g.clk g.player-n≤_;omega⟩
  | exact⟨by show (List.set g.racks g.player.toNat _).length =2;rw [List.length_set];exact hr2,by show 1-g.player=0∨1-g.player=1;omega⟩
  | exact Qm hp.c
  | exact congrArg (fun L=>Ob.own [.i .i64] L 2) (RZ (q:=q) (n:=n) ‹_›)
  | exact congrArg (fun L=>Ob.own [.i .i64] L 2) (Tf (show aT (q1 g q n)=false by assumption))
  | exact congrArg (fun L=>Ob.own [.i .i64] L 2) (RX ‹_› (show aT (q1 g q n)=true by assumption))
  | exact ST (q:=q) (n:=n) ‹_›
  | exact RP (show aT (q1 g q n)=false by assumption)
  | exact SA ‹_› (show aT (q1 g q n)=true by assumption)
  | skip
end Ax
end Go.Proofs.YtjjonmhpgkahoaaGreatDoor
