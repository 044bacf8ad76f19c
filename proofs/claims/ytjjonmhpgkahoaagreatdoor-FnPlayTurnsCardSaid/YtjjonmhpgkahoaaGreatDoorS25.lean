/-
  A turn with a play, of the spec package, where it succeeds.
  Conditions: none.
-/
import Derived.Test.YtjjonmhpgkahoaaGreatDoorS21
set_option linter.unusedSimpArgs false
set_option linter.unusedVariables false
namespace Go.Proofs.YtjjonmhpgkahoaaGreatDoor
namespace Ax
set_option maxRecDepth 100000
set_option maxHeartbeats 20000000
structure StY (g:Gm) (q:Pl) (n:Int):Prop where
 b:StP' g q
 c:turnC g q n=0
def qScore (g:Gm) (q:Pl):Int:=scoreV g.ts g.bd q
def qRest (g:Gm) (q:Pl):List UInt8:=takeS (g.rk g.player) (tilesS (placedS (flatB g.bd q) (flatP q)))
def qBd (g:Gm) (q:Pl):Bd:=madeS g.bd q
def qBag (g:Gm) (q:Pl):List UInt8:=g.bag.drop (drawN g.bag (qRest g q))
def qDrw (g:Gm) (q:Pl):List UInt8:=g.bag.take (drawN g.bag (qRest g q))
def qRks (g:Gm) (q:Pl):List (List UInt8):=g.racks.set g.player.toNat (isort (qRest g q++qDrw g q))
def qSc1 (g:Gm) (q:Pl):List Int:=g.scores.set g.player.toNat (g.sc g.player+qScore g q)
def qClk (g:Gm) (n:Int):List Int:=ckL g n
def qPl (g:Gm):Int:=1-g.player
def q1 (g:Gm) (q:Pl) (n:Int):Gm:=⟨g.ts,g.lex,g.bd0,g.secs,g.rule,qBd g q,qBag g q,qRks g q,qSc1 g q,qClk g n,1-g.player,0,⟨1,g.player,q,g.bd.cells,qDrw g q,qScore g q,g.zeros⟩,g.over⟩
def qEnd (g:Gm) (q:Pl) (n:Int):Bool:=g.rule==0&&waitsB (q1 g q n)
def qSs (g:Gm) (q:Pl) (n:Int):List Int:=if qEnd g q n then setSc (q1 g q n) else qSc1 g q
def qOv (g:Gm) (q:Pl) (n:Int):Bool:=g.over||qEnd g q n
def qG (g:Gm) (q:Pl) (n:Int):Gm:=⟨g.ts,g.lex,g.bd0,g.secs,g.rule,⟨(qBd g q).size,(qBd g q).prem,(qBd g q).cells⟩,qBag g q,qRks g q,qSs g q n,qClk g n,qPl g,0,⟨1,g.player,q,g.bd.cells,qDrw g q,qScore g q,g.zeros⟩,qOv g q n⟩
theorem q1_eq {g:Gm} {q:Pl} {n:Int} (h:std.eqI (actC g n) 0=true) (hG:SyG g n) (hC:SyC g q):q1 g q n=turn1 g q n:=by
 have e1:qRest g q=restT g q:=hC.rs
 have e2:qScore g q=scoreI g.ts g.bd q:=sg_score h hC.v
 have e3:qBd g q=madeB g.bd q:=madeS_eq hG.ok.bd hC.v
 unfold q1 turn1 qBag qRks qSc1 qDrw qClk ckL
 rw [e3,e2,e1]
theorem qG_eq {g:Gm} {q:Pl} {n:Int} (hc:turnC g q n=0):qG g q n=turnG g q n∧qScore g q=scoreI g.ts g.bd q:=by
 obtain⟨h,hG,hC⟩:=sturn_of hc
 refine⟨?_,sg_score h hC.v⟩
 have e:=q1_eq h hG hC
 have e2:qEnd g q n=(g.rule==0&&(isort (restT g q++g.bag.take (drawN g.bag (restT g q)))).isEmpty):=by
  unfold qEnd
  rw [e,waits_turn1 hG]
 have e3:qG g q n={ q1 g q n with scores:=if qEnd g q n then setSc (q1 g q n) else (q1 g q n).scores,over:=g.over||qEnd g q n }:=rfl
 rw [e3,e,e2]
 unfold turnG
 by_cases h:g.rule=0∧(isort (restT g q++g.bag.take (drawN g.bag (restT g q)))).isEmpty =true
 ·rw [if_pos h,h.2,show (g.rule==0)=true by simpa using h.1]
  unfold settleG setSc
  simp
 ·rw [if_neg h]
  have h2:(g.rule==0&&(isort (restT g q++g.bag.take (drawN g.bag (restT g q)))).isEmpty)=false:=by
   rw [Bool.eq_false_iff]
   intro h3
   rw [Bool.and_eq_true,beq_iff_eq] at h3
   exact h h3
  rw [h2]
  simp [turn1]
theorem set_q1 {g:Gm} {q:Pl} {n:Int} (hc:turnC g q n=0):SetP (q1 g q n):=by
 obtain⟨h,hG,hC⟩:=sturn_of hc
 rw [q1_eq h hG hC]
 exact set_turn1 hc
theorem qs_no {g:Gm} {q:Pl} {n:Int} (h:std.eqI g.rule 0=false):qSc1 g q=qSs g q n:=by
 unfold qSs qEnd
 rw [show (g.rule==0)=false from h];rfl
theorem qo_no {g:Gm} {q:Pl} {n:Int} (h:std.eqI g.rule 0=false):g.over=qOv g q n:=by
 unfold qOv qEnd
 rw [show (g.rule==0)=false from h];simp
theorem qs_w0 {g:Gm} {q:Pl} {n:Int} (h:waitsB (q1 g q n)=false):qSc1 g q=qSs g q n:=by
 unfold qSs qEnd
 rw [h];simp
theorem qo_w0 {g:Gm} {q:Pl} {n:Int} (h:waitsB (q1 g q n)=false):g.over=qOv g q n:=by
 unfold qOv qEnd
 rw [h];simp
theorem qs_w1 {g:Gm} {q:Pl} {n:Int} (h:std.eqI g.rule 0=true) (h2:waitsB (q1 g q n)=true):setSc (q1 g q n)=qSs g q n:=by
 unfold qSs qEnd
 rw [show (g.rule==0)=true from h,h2];rfl
theorem qo_w1 {g:Gm} {q:Pl} {n:Int} (h:std.eqI g.rule 0=true) (h2:waitsB (q1 g q n)=true):true=qOv g q n:=by
 unfold qOv qEnd
 rw [show (g.rule==0)=true from h,h2];simp
def sp_s_PlayTurn_y (p:Pr):FSpec:=fsp (ac (aA aGm) (ac (aA aPl) (a1 aI))) (fun (g,q,n)=>StY g q n) (fun (g,q,n)=>.tup [.agg (gmK ⟨g.ts,g.lex,g.bd0,g.secs,g.rule,⟨(qBd g q).size,(qBd g q).prem,(qBd g q).cells⟩,qBag g q,qRks g q,qSs g q n,qClk g n,qPl g,0,⟨1,g.player,q,g.bd.cells,qDrw g q,qScore g q,g.zeros⟩,qOv g q n⟩ (.osl 0) (.osl 1) (.osl 2) (.osl 3) (.osl 4) (.osl 5)),.i .i64 (qScore g q),.i .i64 0]) (fun (g,q,n)=>[(0,.own [.i .i64] g.ts.values 2),(1,.own [.i .i64] g.ts.counts 2),(2,.own [.s] g.lex 9),(3,.own [.s] (qRks g q) 9),(4,.own [.i .i64] (qSs g q n) 2),(5,.own [.i .i64] (qClk g n) 2)])
theorem ok_s_PlayTurn_y:FOk Tryz.prog 41 (sp_s_PlayTurn_y std):=by
 refine FOk.go (c:=cx std [(105,sp_s_l18Begin std),(121,sp_s_l18Waits std),(122,sp_s_l12Legal std),(123,sp_s_l13Score std),(124,sp_s_l18Points std),(108,sp_s_l18Own std),(125,sp_s_l12Flat std),(128,sp_s_l12Placed std),(127,sp_s_l03Tiles std),(126,sp_s_l03Take std),(129,sp_s_l17Fill std),(130,sp_s_l12Make std),(74,sp_s_l03Sort std)] [(131,sp_s_l18Clock std),(132,sp_s_l18Settle std)] 0) (cx_ok (.cons ok_s_l18Begin (.cons ok_s_l18Waits (.cons ok_s_l12Legal (.cons ok_s_l13Score (.cons ok_s_l18Points (.cons ok_s_l18Own (.cons ok_s_l12Flat (.cons ok_s_l12Placed (.cons ok_s_l03Tiles (.cons ok_s_l03Take (.cons ok_s_l17Fill (.cons ok_s_l12Make (.cons ok_s_l03Sort .nil))))))))))))) (.cons ok_s_l18Clock (.cons ok_s_l18Settle .nil))) mixed Tryz.func41 rfl rfl rfl (by kernel_rfl) ?_
 rintro ⟨g,q,n⟩ hp
 dsimp only at hp
 refine⟨rfl,?_⟩
 unfold sp_s_l18Begin sp_s_l18Waits sp_s_l12Legal sp_s_l13Score sp_s_l18Points sp_s_l18Own sp_s_l12Flat sp_s_l12Placed sp_s_l03Tiles sp_s_l03Take sp_s_l17Fill sp_s_l12Make sp_s_l03Sort sp_s_l18Clock sp_s_l18Settle
 generalize hP:std=p,hB0:actC=B0,hB1:waitsB=B1,hB2:legalC=B2,hB3:scoreV=B3,hB4:inR=B4,hB5:flatB=B5,hB6:flatP=B6,hB7:placedS=B7,hB8:tilesS=B8,hB9:takeS=B9,hB10:takeB=B10,hB11:drawN=B11,hB12:madeS=B12,hB13:isort=B13,hB14:ckL=B14,hB15:setSc=B15,hB16:qBd=B16,hB17:qBag=B17,hB18:qRks=B18,hB19:qSs=B19,hB20:qClk=B20,hB21:qPl=B21,hB22:qDrw=B22,hB23:qScore=B23,hB24:qOv=B24
 cbv
 repeat' first
  | (refine fun (_:Unit)=>?_;cbv)
  | (refine aI2 (fun h=>?_) (fun h=>?_)<;>cbv)
  | (refine aI2 ?_ ?_)
  | (refine Or.inl (fun (_:Unit)=>?_);cbv)
 all_goals subst hP hB0 hB1 hB2 hB3 hB4 hB5 hB6 hB7 hB8 hB9 hB10 hB11 hB12 hB13 hB14 hB15 hB16 hB17 hB18 hB19 hB20 hB21 hB22 hB23 hB24
 all_goals try exact fin
 all_goals try (exfalso;exact se1 hp.c ‹_›)
 all_goals try (exfalso;exact se2 hp.c ‹_› ‹_›)
 all_goals try (exfalso;exact se3 hp.c ‹_› ‹_› ‹_› (Or.inl ‹_›))
 all_goals try (exfalso;exact se3 hp.c ‹_› ‹_› ‹_› (Or.inr ‹_›))
 all_goals try (exfalso;exact sq4 hp.c ‹_› ‹_› (Or.inl ‹_›))
 all_goals try (exfalso;exact sq4 hp.c ‹_› ‹_› (Or.inr ‹_›))
 all_goals obtain⟨hact,hG,hC⟩:=sturn_of hp.c
 all_goals (have hpl:=hG.fa.ply;have hr2:=hG.r2;have hs2:=hG.fa.s;have hk2:=hG.fa.k;have hck:=hG.ok.clk g.player;have hsc:=hG.s;have hn:=hG.nb;have hcc:=hG.c;have hsb:=hC.sc;have hwd:=hp.b.wd)
 all_goals have h7:(qRest g q).length ≤7:=by rw [show qRest g q=restT g q from hC.rs];exact rack_len hC.rk
 all_goals have h8:drawN g.bag (qRest g q)≤g.bag.length:=Nat.min_le_right _ _
 all_goals have h9:=hp.b.gm.bag
 all_goals have h10:(qDrw g q).length ≤7:=by show (g.bag.take (drawN g.bag (qRest g q))).length ≤7;rw [List.length_take];unfold drawN;omega
 all_goals have h11:(placedS (flatB g.bd q) (flatP q)).length ≤15:=Nat.le_trans (placedS_len (flatB g.bd q) (flatP q)) hC.pl.on.len
 all_goals have h12:(tilesS (placedS (flatB g.bd q) (flatP q))).length ≤15:=Nat.le_trans (Nat.le_of_eq (tilesS_len (placedS (flatB g.bd q) (flatP q)))) h11
 all_goals first
  | exact hp.b.gm
  | exact hp.b.own
  | exact hC.pl
  | exact hC.pl.fit
  | exact hC.pl.on
  | exact⟨hC.ts,hC.pl⟩
  | exact⟨hr2,by show g.player=0∨g.player=1;omega⟩
  | exact⟨hpl.1,by show g.player<(g.racks.length:Int);omega⟩
  | exact⟨hpl.1,by show g.player<(g.scores.length:Int);omega⟩
  | exact⟨hp.b.gm.bd,hp.b.gm.su.ws,hp.b.gm.rk g.player,by show q.word.length≤_;omega⟩
  | exact in64 (by show _≤g.sc g.player+scoreV g.ts g.bd q∧g.sc g.player+scoreV g.ts g.bd q≤_;omega)
  | exact in64 (by show _≤1-g.player∧1-g.player≤_;omega)
  | exact ltM_of h9
  | exact ltM_of (hp.b.gm.rk g.player)
  | exact ltM_of (Nat.le_trans h7 (by decide))
  | exact ltM_of (Nat.le_trans h11 (by decide))
  | exact ltM_of (Nat.le_trans h12 (by decide))
  | exact Int.ofNat_le.2 h7
  | exact Int.ofNat_le.2 h8
  | exact in64 (by show _≤((qRest g q).length : Int)+((qDrw g q).length : Int)∧((qRest g q).length : Int)+((qDrw g q).length : Int)≤_;omega)
  | exact ltM_of (n:=(qRest g q++qDrw g q).length) (by rw [List.length_append];omega)
  | exact⟨hk2,by show g.player=0∨g.player=1;omega,by show _≤g.clk g.player-n∧g.clk g.player-n≤_;omega⟩
  | exact⟨by show (List.set g.racks g.player.toNat _).length =2;rw [List.length_set];exact hr2,by show 1-g.player=0∨1-g.player=1;omega⟩
  | exact set_q1 hp.c
  | exact congrArg (fun L=>Ob.own [.i .i64] L 2) (qs_no (q:=q) (n:=n) ‹_›)
  | exact congrArg (fun L=>Ob.own [.i .i64] L 2) (qs_w0 (show waitsB (q1 g q n)=false by assumption))
  | exact congrArg (fun L=>Ob.own [.i .i64] L 2) (qs_w1 ‹_› (show waitsB (q1 g q n)=true by assumption))
  | exact qo_no (q:=q) (n:=n) ‹_›
  | exact qo_w0 (show waitsB (q1 g q n)=false by assumption)
  | exact qo_w1 ‹_› (show waitsB (q1 g q n)=true by assumption)
  | skip
end Ax
end Go.Proofs.YtjjonmhpgkahoaaGreatDoor
