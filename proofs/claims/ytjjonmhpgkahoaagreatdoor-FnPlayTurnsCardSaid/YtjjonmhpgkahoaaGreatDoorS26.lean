/-
  A turn with a play that fails, of the spec package.
  Conditions: none.
-/
import Derived.Test.YtjjonmhpgkahoaaGreatDoorS21
set_option linter.unusedSimpArgs false
set_option linter.unusedVariables false
namespace Go.Proofs.YtjjonmhpgkahoaaGreatDoor
namespace Ax
set_option maxRecDepth 100000
set_option maxHeartbeats 20000000
section
variable {g:Gm} {q:Pl} {n:Int}
theorem sn1 (h:std.eqI (actC g n) 0=false):actC g n=turnC g q n:=by
 have h1:=eqI_f h
 unfold turnC
 rw [if_neg h1]
theorem sn2 (h:std.eqI (actC g n) 0=true) (h2:waitsB g=true):6=turnC g q n:=by
 have h1:=eqI_t h
 unfold turnC
 rw [if_pos h1,if_pos h2]
theorem sn3 (h:std.eqI (actC g n) 0=true) (h2:waitsB g=false) (h3:std.eqI (legalC g.bd g.lex (g.rk g.player) q) 0=false) (h4:std.eqI (legalC g.bd g.lex (g.rk g.player) q) 9=false∨std.eqI g.rule 0=true):legalC g.bd g.lex (g.rk g.player) q=turnC g q n:=by
 have h1:=eqI_t h
 have h3:=eqI_f h3
 rw [sg_code h] at h3 h4 ⊢
 unfold turnC
 rw [if_pos h1,if_neg (by rw [h2];simp),if_pos ⟨h3,h4.imp eqI_f eqI_t⟩]
theorem sn45 (h:std.eqI (actC g n) 0=true) (h2:waitsB g=false) (h3:std.eqI (legalC g.bd g.lex (g.rk g.player) q) 0=true∨(std.eqI (legalC g.bd g.lex (g.rk g.player) q) 9=true∧std.eqI g.rule 0=false)):turnC g q n=if 20000<scoreV g.ts g.bd q∨50000<g.sc g.player+scoreV g.ts g.bd q then 5 else 0:=by
 have h1:=eqI_t h
 rw [sg_score h (se_val h (h3.imp id And.left)).1]
 rw [sg_code h] at h3
 unfold turnC
 rw [if_pos h1,if_neg (by rw [h2];simp),if_neg ?_]
 rintro ⟨a,b⟩
 rcases h3 with h3 | ⟨h3,h4⟩
 ·exact a (eqI_t h3)
 ·rcases b with b | b
  ·exact b (eqI_t h3)
  ·exact eqI_f h4 b
theorem sn4 (h:std.eqI (actC g n) 0=true) (h2:waitsB g=false) (h3:std.eqI (legalC g.bd g.lex (g.rk g.player) q) 0=true∨(std.eqI (legalC g.bd g.lex (g.rk g.player) q) 9=true∧std.eqI g.rule 0=false)) (h5:std.ltI 20000 (scoreV g.ts g.bd q)=true∨inR (g.sc g.player+scoreV g.ts g.bd q) (-50000) 50000=false):5=turnC g q n:=by
 have hG:=syg h
 have hC:=(syc hG h (h3.imp id And.left)).sc
 have hs:=hG.s
 rw [sn45 h h2 h3,if_pos (h5.imp lt_of fun h6=>?_)]
 simp only [inR,Bool.and_eq_false_iff,decide_eq_false_iff_not] at h6
 omega
theorem sn5 (hc:turnC g q n≠0) (h:std.eqI (actC g n) 0=true) (h2:waitsB g=false) (h3:std.eqI (legalC g.bd g.lex (g.rk g.player) q) 0=true∨(std.eqI (legalC g.bd g.lex (g.rk g.player) q) 9=true∧std.eqI g.rule 0=false)) (h5:std.ltI 20000 (scoreV g.ts g.bd q)=false) (h6:inR (g.sc g.player+scoreV g.ts g.bd q) (-50000) 50000=true):False:=by
 apply hc
 have a:=ge_of h5
 have b:=in_bd h6
 rw [sn45 h h2 h3,if_neg (by omega)]
structure StN (g:Gm) (q:Pl) (n:Int):Prop where
 b:StP' g q
 c:turnC g q n≠0
end
def sp_s_PlayTurn_n (p:Pr):FSpec:=fsp (ac (aA aGm) (ac (aA aPl) (a1 aI))) (fun (g,q,n)=>StN g q n) (fun (g,q,n)=>.tup [.agg (gmK gm0 .esl .esl .esl .esl .esl .esl),.i .i64 0,.i .i64 (turnC g q n)])
theorem ok_s_PlayTurn_n:FOk Tryz.prog 41 (sp_s_PlayTurn_n std):=by
 refine FOk.go (c:=cx std [(105,sp_s_l18Begin std),(121,sp_s_l18Waits std),(122,sp_s_l12Legal std),(123,sp_s_l13Score std),(124,sp_s_l18Points std),(108,sp_s_l18Own std),(125,sp_s_l12Flat std),(128,sp_s_l12Placed std),(127,sp_s_l03Tiles std),(126,sp_s_l03Take std),(129,sp_s_l17Fill std),(130,sp_s_l12Make std),(74,sp_s_l03Sort std)] [(131,sp_s_l18Clock std),(132,sp_s_l18Settle std)] 0) (cx_ok (.cons ok_s_l18Begin (.cons ok_s_l18Waits (.cons ok_s_l12Legal (.cons ok_s_l13Score (.cons ok_s_l18Points (.cons ok_s_l18Own (.cons ok_s_l12Flat (.cons ok_s_l12Placed (.cons ok_s_l03Tiles (.cons ok_s_l03Take (.cons ok_s_l17Fill (.cons ok_s_l12Make (.cons ok_s_l03Sort .nil))))))))))))) (.cons ok_s_l18Clock (.cons ok_s_l18Settle .nil))) mixed Tryz.func41 rfl rfl rfl (by kernel_rfl) ?_
 rintro ⟨g,q,n⟩ hp
 dsimp only at hp
 refine⟨rfl,?_⟩
 unfold sp_s_l18Begin sp_s_l18Waits sp_s_l12Legal sp_s_l13Score sp_s_l18Points sp_s_l18Own sp_s_l12Flat sp_s_l12Placed sp_s_l03Tiles sp_s_l03Take sp_s_l17Fill sp_s_l12Make sp_s_l03Sort sp_s_l18Clock sp_s_l18Settle
 generalize hP:std=p,hB0:actC=B0,hB1:waitsB=B1,hB2:legalC=B2,hB3:scoreV=B3,hB4:inR=B4,hB5:flatB=B5,hB6:flatP=B6,hB7:placedS=B7,hB8:tilesS=B8,hB9:takeS=B9,hB10:takeB=B10,hB11:drawN=B11,hB12:madeS=B12,hB13:isort=B13,hB14:ckL=B14,hB15:setSc=B15,hB16:turnC=B16
 cbv
 repeat' first
  | (refine fun (_:Unit)=>?_;cbv)
  | (refine aI2 (fun h=>?_) (fun h=>?_)<;>cbv)
  | (refine aI2 ?_ ?_)
  | (refine Or.inl (fun (_:Unit)=>?_);cbv)
 all_goals subst hP hB0 hB1 hB2 hB3 hB4 hB5 hB6 hB7 hB8 hB9 hB10 hB11 hB12 hB13 hB14 hB15 hB16
 all_goals try exact fin
 all_goals try (exfalso;exact sn5 hp.c ‹_› ‹_› (Or.inl ‹_›) ‹_› ‹_›)
 all_goals try (exfalso;exact sn5 hp.c ‹_› ‹_› (Or.inr ⟨‹_›,‹_›⟩) ‹_› ‹_›)
 all_goals have hwd:=hp.b.wd
 all_goals try (have hG:=syg (show std.eqI (actC g n) 0=true by assumption);have hpl:=hG.fa.ply;have hr2:=hG.r2;have hs2:=hG.fa.s;have hsc:=hG.s)
 all_goals try (have hC:=syc (q:=q) hG ‹_› (Or.inl ‹_›);have hsb:=hC.sc)
 all_goals try (have hC:=syc (q:=q) hG ‹_› (Or.inr ‹_›);have hsb:=hC.sc)
 all_goals first
  | exact hp.b.gm
  | exact sn1 ‹_›
  | exact sn2 ‹_› ‹_›
  | exact sn3 ‹_› ‹_› ‹_› (Or.inl ‹_›)
  | exact sn3 ‹_› ‹_› ‹_› (Or.inr ‹_›)
  | exact sn4 ‹_› ‹_› (Or.inl ‹_›) (Or.inl ‹_›)
  | exact sn4 ‹_› ‹_› (Or.inl ‹_›) (Or.inr ‹_›)
  | exact sn4 ‹_› ‹_› (Or.inr ⟨‹_›,‹_›⟩) (Or.inl ‹_›)
  | exact sn4 ‹_› ‹_› (Or.inr ⟨‹_›,‹_›⟩) (Or.inr ‹_›)
  | exact⟨hr2,by show g.player=0∨g.player=1;omega⟩
  | exact⟨hpl.1,by show g.player<(g.racks.length:Int);omega⟩
  | exact⟨hpl.1,by show g.player<(g.scores.length:Int);omega⟩
  | exact⟨hp.b.gm.bd,hp.b.gm.su.ws,hp.b.gm.rk g.player,by show q.word.length≤_;omega⟩
  | exact⟨hC.ts,hC.pl⟩
  | exact in64 (by show _≤g.sc g.player+scoreV g.ts g.bd q∧g.sc g.player+scoreV g.ts g.bd q≤_;omega)
  | skip
end Ax
end Go.Proofs.YtjjonmhpgkahoaaGreatDoor
