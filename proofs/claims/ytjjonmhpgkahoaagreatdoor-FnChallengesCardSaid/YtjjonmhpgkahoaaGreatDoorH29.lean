/-
  A turn with a play that fails, of the spec package.
  Conditions: none.
-/
import Derived.Test.YtjjonmhpgkahoaaGreatDoorH16
set_option linter.unusedSimpArgs false
set_option linter.unusedVariables false
namespace Go.Proofs.YtjjonmhpgkahoaaGreatDoor
namespace Ax
set_option maxRecDepth 100000
set_option maxHeartbeats 20000000
section
variable {g:Gm} {q:Pl} {n:Int}
theorem sn1 (h:std.eqI (aO g n) 0=false):aO g n=bz g q n:=by
 have h1:=dI h
 unfold bz
 rw [if_neg h1]
theorem sn2 (h:std.eqI (aO g n) 0=true) (h2:aT g=true):6=bz g q n:=by
 have h1:=bV h
 unfold bz
 rw [if_pos h1,if_pos h2]
theorem sn3 (h:std.eqI (aO g n) 0=true) (h2:aT g=false) (h3:std.eqI (bK g.bd g.lex (g.rk g.player) q) 0=false) (h4:std.eqI (bK g.bd g.lex (g.rk g.player) q) 9=false∨std.eqI g.rule 0=true):bK g.bd g.lex (g.rk g.player) q=bz g q n:=by
 have h1:=bV h
 have h3:=dI h3
 rw [rT h] at h3 h4 ⊢
 unfold bz
 rw [if_pos h1,if_neg (by rw [h2];simp),if_pos ⟨h3,h4.imp dI bV⟩]
theorem R6 (h:std.eqI (aO g n) 0=true) (h2:aT g=false) (h3:std.eqI (bK g.bd g.lex (g.rk g.player) q) 0=true∨(std.eqI (bK g.bd g.lex (g.rk g.player) q) 9=true∧std.eqI g.rule 0=false)):bz g q n=if 20000<cG g.ts g.bd q∨50000<g.sc g.player+cG g.ts g.bd q then 5 else 0:=by
 have h1:=bV h
 rw [mJ h (J2 h (h3.imp id And.left)).1]
 rw [rT h] at h3
 unfold bz
 rw [if_pos h1,if_neg (by rw [h2];simp),if_neg ?_]
 rintro ⟨a,b⟩
 rcases h3 with h3 | ⟨h3,h4⟩
 ·exact a (bV h3)
 ·rcases b with b | b
  ·exact b (bV h3)
  ·exact dI h4 b
theorem sn4 (h:std.eqI (aO g n) 0=true) (h2:aT g=false) (h3:std.eqI (bK g.bd g.lex (g.rk g.player) q) 0=true∨(std.eqI (bK g.bd g.lex (g.rk g.player) q) 9=true∧std.eqI g.rule 0=false)) (h5:std.ltI 20000 (cG g.ts g.bd q)=true∨inR (g.sc g.player+cG g.ts g.bd q) (-50000) 50000=false):5=bz g q n:=by
 have hG:=syg h
 have hC:=(syc hG h (h3.imp id And.left)).sc
 have hs:=hG.s
 rw [R6 h h2 h3,if_pos (h5.imp ah fun h6=>?_)]
 simp only [inR,Bool.and_eq_false_iff,decide_eq_false_iff_not] at h6
 omega
theorem sn5 (hc:bz g q n≠0) (h:std.eqI (aO g n) 0=true) (h2:aT g=false) (h3:std.eqI (bK g.bd g.lex (g.rk g.player) q) 0=true∨(std.eqI (bK g.bd g.lex (g.rk g.player) q) 9=true∧std.eqI g.rule 0=false)) (h5:std.ltI 20000 (cG g.ts g.bd q)=false) (h6:inR (g.sc g.player+cG g.ts g.bd q) (-50000) 50000=true):False:=by
 apply hc
 have a:=ao h5
 have b:=br h6
 rw [R6 h h2 h3,if_neg (by omega)]
structure StN (g:Gm) (q:Pl) (n:Int):Prop where
 b:ER g q
 c:bz g q n≠0
end
def vM (p:Pr):aa:=fsp (ac (aA aGm) (ac (aA aPl) (a1 aI))) (fun (g,q,n)=>StN g q n) (fun (g,q,n)=>.tup [.agg (gmK gm0 .esl .esl .esl .esl .esl .esl),.i .i64 0,.i .i64 (bz g q n)])
theorem vI:FOk Tryz.prog 41 (vM std):=by
 refine FOk.go (c:=cx std [(105,aG std),(121,bH std),(122,cW std),(123,d4 std),(124,dp std),(108,aV std),(125,aJ std),(128,cD std),(127,bG std),(126,bo std),(129,iu std),(130,eA std),(74,aQ std)] [(131,bF std),(132,bc std)] 0) (ae (.cons cy (.cons eP (.cons jN (.cons mC (.cons kN (.cons dk (.cons cB (.cons iW (.cons eQ (.cons dR (.cons ss (.cons n5 (.cons cT .nil))))))))))))) (.cons eT (.cons dy .nil))) mixed Tryz.func41 rfl rfl rfl (by kernel_rfl) ?_
 rintro ⟨g,q,n⟩ hp
 dsimp only at hp
 refine⟨rfl,?_⟩
 unfold aG bH cW d4 dp aV aJ cD bG bo iu eA aQ bF bc
 generalize hP:std=p,hB0:aO=B0,hB1:aT=B1,hB2:bK=B2,hB3:cG=B3,hB4:inR=B4,hB5:af=B5,hB6:ab=B6,hB7:bB=B7,hB8:av=B8,hB9:bR=B9,hB10:takeB=B10,hB11:bQ=B11,hB12:fL=B12,hB13:au=B13,hB14:ckL=B14,hB15:fN=B15,hB16:bz=B16
 cbv
 repeat' first|refine fun (_:Unit)=>?_;cbv|refine aI2 (fun h=>?_) (fun h=>?_)<;>cbv|refine aI2 ?_ ?_|refine Or.inl (fun (_:Unit)=>?_);cbv
 all_goals subst hP hB0 hB1 hB2 hB3 hB4 hB5 hB6 hB7 hB8 hB9 hB10 hB11 hB12 hB13 hB14 hB15 hB16
 all_goals try exact fin
 all_goals try (exfalso;exact sn5 hp.c ‹_› ‹_› (Or.inl ‹_›) ‹_› ‹_›)
 all_goals try (exfalso;exact sn5 hp.c ‹_› ‹_› (Or.inr ⟨‹_›,‹_›⟩) ‹_› ‹_›)
 all_goals have hwd:=hp.b.wd
 all_goals try (have hG:=syg (show std.eqI (aO g n) 0=true by assumption);have hpl:=hG.fa.ply;have hr2:=hG.r2;have hs2:=hG.fa.s;have hsc:=hG.s)
 all_goals try (have hC:=syc (q:=q) hG ‹_› (Or.inl ‹_›);have hsb:=hC.sc)
 all_goals try (have hC:=syc (q:=q) hG ‹_› (Or.inr ‹_›);have hsb:=hC.sc)
 all_goals first
  | exact hp.b.gm
  | exact sn1 ‹_›
  | exact sn2 ‹_› ‹_›
  | exact sn3 ‹_› ‹_› ‹_› (Or.inl ‹_›)
  | exact sn3 ‹_› ‹_› ‹_› (Or.inr ‹_›)
  | exact sn4 ‹_› ‹_› (Or.inl ‹_›) (Or.inl ‹_›)
  | exact sn4 ‹_› ‹_› (Or.inl ‹_›) (Or.inr ‹_›)
  | exact sn4 ‹_› ‹_› (Or.inr ⟨‹_›,‹_›⟩) (Or.inl ‹_›)
  | exact sn4 ‹_› ‹_› (Or.inr ⟨‹_›,‹_›⟩) (Or.inr ‹_›)
  | exact⟨hr2,by show g.player=0∨g.player=1;omega⟩
  | exact⟨hpl.1,by show g.player<(g.racks.length:Int);omega⟩
  | exact⟨hpl.1,by show g.player<(g.scores.length:Int);omega⟩
  | exact⟨hp.b.gm.bd,hp.b.gm.su.ws,hp.b.gm.rk g.player,by show q.word.length≤_;omega⟩
  | exact⟨hC.ts,hC.pl⟩
  | exact an (by show _≤g.sc g.player+cG g.ts g.bd q∧g.sc g.player+cG g.ts g.bd q≤_;omega)
  | skip
end Ax
end Go.Proofs.YtjjonmhpgkahoaaGreatDoor
