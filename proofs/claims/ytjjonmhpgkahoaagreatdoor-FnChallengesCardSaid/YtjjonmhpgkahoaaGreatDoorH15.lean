/-
  Valid games, of the spec package.
  Conditions: none.
-/
import Derived.Test.YtjjonmhpgkahoaaGreatDoorH14
set_option linter.unusedSimpArgs false
set_option linter.unusedVariables false
namespace Go.Proofs.YtjjonmhpgkahoaaGreatDoor
namespace Ax
set_option maxRecDepth 100000
set_option maxHeartbeats 2000000
def suB (u:Su):Bool:=tsB u.ts&&(lexB u.lex&&(bdB u.bd&&((ag u.bd).isEmpty &&(inR u.secs 0 36000&&inR u.rule 0 3))))
structure SuL (u:Su):Prop where
 ts:TsL u.ts
 ws:WsP u.lex
 bd:BdP u.bd
def dW (p:Pr):aa:=fsp (a1 (aP aSu)) (fun u=>SuL u) (fun u=>.b (suB u))
theorem ml:FOk Tryz.prog 72 (dW std):=by
 refine FOk.go (c:=cx std [(171,lH std),(172,lF std),(159,gY std),(173,bn std),(89,ba std)] [] 0) (ae (.cons xg (.cons xD (.cons rB (.cons dF (.cons dm .nil))))) .nil) mixed Tryz.func72 rfl rfl rfl (by kernel_rfl) ?_
 rintro u hp
 refine⟨rfl,?_⟩
 unfold lH lF gY bn ba
 generalize hP:std=p,hB0:suB=B0,hB1:tsB=B1,hB2:lexB=B2,hB3:bdB=B3,hB4:ag=B4,hB5:inR=B5
 cbv
 repeat' first|refine fun (_:Unit)=>?_;cbv|refine aI2 (fun h=>?_) (fun h=>?_)<;>cbv|refine aI2 ?_ ?_|refine Or.inl (fun (_:Unit)=>?_);cbv
 all_goals subst hP hB0 hB1 hB2 hB3 hB4 hB5
 all_goals try exact fin
 ·exact hp.bd
 ·exact hp.bd
 all_goals (unfold suB;simp [*] at *;try simp [*])
structure PkP (g:Gm):Prop where
 ts:er g.ts
 rk2:g.racks.length=2
 ply:g.player=0∨g.player=1
 rk : ∀k,(g.rk k).length ≤7
 bf:BdP g.bef
 wd:g.last.play.word.length≤274877906944
 dr:g.last.drawn.length≤274877906944
def frN (g:Gm):Int:=std.len (frI (af g.bef g.last.play) (ab g.last.play))
def bdE (a b:Bd):Bool:=std.and (std.eqI a.size b.size) (std.and (std.eqS a.prem b.prem) (std.eqS a.cells b.cells))
theorem Pb (g:Gm):eg g=(std.eqI g.last.player (std.sub 1 g.player)&&(okB g.bef g.last.play&&(inR g.last.zeros 0 5&&(std.eqI g.zeros 0&&(bL g.last.drawn&&(takeB (std.get [] g.racks g.last.player) (au g.last.drawn)&&(std.leI (frN g) 7&&(std.leI (std.lenS g.last.drawn) (frN g)&&(std.leI (std.add (std.sub (std.lenS (std.get [] g.racks g.last.player)) (std.lenS g.last.drawn)) (frN g)) 7&&(bdE (fL g.bef g.last.play) g.bd&&(std.eqI g.last.score (cG g.ts g.bef g.last.play)&&std.leI g.last.score 20000))))))))))):=by
 unfold eg frN
 rw [nZ,HQ]
 congr 6
 congr 1
 ·rw [ET,Bool.eq_iff_iff,decide_eq_true_eq,decide_eq_true_eq];omega
 congr 1
 rw [ET,gG,Bool.eq_iff_iff,decide_eq_true_eq,decide_eq_true_eq];omega
structure RD (g:Gm):Prop where
 ply:std.inL g.last.player (std.len g.racks)
 pl:PlP g.bef g.last.play
 fr:(frI (af g.bef g.last.play) (ab g.last.play)).length ≤15
 dr:g.last.drawn.length≤120
 rk:(g.rk g.last.player).length ≤7
 so:(au g.last.drawn).length ≤120
theorem Qp {g:Gm} (hp:PkP g) (h1:std.eqI g.last.player (std.sub 1 g.player)=true):std.inL g.last.player (std.len g.racks):=by
 have h2:=hp.rk2
 have h3:g.last.player=1-g.player:=by simpa using h1
 refine⟨?_,?_⟩
 ·rcases hp.ply with h | h<;>omega
 ·show g.last.player<(g.racks.length:Int)
  rcases hp.ply with h | h<;>omega
theorem eF {s:List UInt8} (h:bL s=true):s.length≤120:=by
 unfold bL at h
 simp only [Bool.and_eq_true,decide_eq_true_eq] at h
 exact h.2
theorem UX {g:Gm} (hp:PkP g) (h1:std.eqI g.last.player (std.sub 1 g.player)=true) (h2:okB g.bef g.last.play=true) (h3:bL g.last.drawn=true):RD g:=by
 have h4:=my h2
 have h5:=kG (af g.bef g.last.play) (ab g.last.play)
 have h6:=h4.on.len
 exact⟨Qp hp h1,h4,by omega,eF h3,hp.rk _,by rw [ax];exact eF h3⟩
def lE (p:Pr):aa:=fsp (a1 (aP aGm)) (fun g=>PkP g) (fun g=>.b (eg g))
theorem xY:FOk Tryz.prog 250 (lE std):=by
 refine FOk.go (c:=cx std [(224,dY std),(212,k8 std),(89,ba std),(73,du std),(125,aJ std),(217,aU std),(126,bo std),(74,aQ std),(130,eA std),(123,d4 std)] [] 0) (ae (.cons mo (.cons yD (.cons dm (.cons lC (.cons cB (.cons dj (.cons dR (.cons cT (.cons n5 (.cons mC .nil)))))))))) .nil) mixed Tryz.func250 rfl rfl rfl (by kernel_rfl) ?_
 rintro g hp
 refine⟨rfl,?_⟩
 unfold dY k8 ba du aJ aU bo aQ eA d4
 generalize hP:std=p,hB0:eg=B0,hB1:okB=B1,hB2:af=B2,hB3:ab=B3,hB4:frI=B4,hB5:takeB=B5,hB6:bR=B6,hB7:au=B7,hB8:bL=B8,hB9:fL=B9,hB10:cG=B10,hB11:inR=B11
 cbv
 repeat' first|refine fun (_:Unit)=>?_;cbv|refine aI2 (fun h=>?_) (fun h=>?_)<;>cbv|refine aI2 ?_ ?_|refine Or.inl (fun (_:Unit)=>?_);cbv
 all_goals subst hP hB0 hB1 hB2 hB3 hB4 hB5 hB6 hB7 hB8 hB9 hB10 hB11
 all_goals try exact fin
 ·exact an (by show _≤1-g.player∧1-g.player≤_;rcases hp.ply with h | h<;>omega)
 ·exact⟨hp.bf,hp.wd⟩
 ·exact aR hp.dr
 ·rw [Pb,show bL g.last.drawn=false by assumption];simp
 all_goals try (have F:=UX hp ‹_› ‹_› ‹_›)
 ·exact F.pl.fit
 ·exact F.pl.on
 ·exact F.ply
 ·exact aR hp.dr
 ·exact aR (n:=(g.rk g.last.player).length) (Nat.le_trans F.rk (by decide))
 ·exact aR (Nat.le_trans F.so (by decide))
 ·exact F.ply
 ·have a1:=F.rk
  have a2:=F.dr
  exact an (by show _≤((g.rk g.last.player).length : Int)-g.last.drawn.length∧((g.rk g.last.player).length : Int)-g.last.drawn.length≤_;omega)
 ·have a1:=F.rk
  have a2:=F.dr
  have a3:=F.fr
  exact an (by show _≤((g.rk g.last.player).length : Int)-g.last.drawn.length+(frI (af g.bef g.last.play) (ab g.last.play)).length ∧((g.rk g.last.player).length : Int)-g.last.drawn.length+(frI (af g.bef g.last.play) (ab g.last.play)).length ≤_;omega)
 ·exact F.pl
 ·exact⟨hp.ts,F.pl⟩
 all_goals (clear hp;try clear F)
 all_goals (rw [Pb];unfold frN bdE;try simp only [Bool.not_true,Bool.not_false] at *)
 all_goals first
  | (rw [show std.eqI g.last.player (std.sub 1 g.player)=false by assumption];rfl)
  | rw [show std.eqI g.last.player (std.sub 1 g.player)=true by assumption,Bool.true_and]
 all_goals first
  | (rw [show okB g.bef g.last.play=false by assumption];rfl)
  | rw [show okB g.bef g.last.play=true by assumption,Bool.true_and]
 all_goals first
  | (rw [show inR g.last.zeros 0 5=false by assumption];rfl)
  | rw [show inR g.last.zeros 0 5=true by assumption,Bool.true_and]
 all_goals try (show std.leI g.last.score 20000=_)
 all_goals (try unfold Gm.bef;try simp only [eD,fV] at *;generalize (⟨g.bd.size,g.bd.prem,g.last.before⟩:Bd)=bf at *)
 all_goals
  (generalize std.eqI g.zeros 0=b1 at *
   generalize bL g.last.drawn=b2 at *
   generalize takeB (std.get [] g.racks g.last.player) (au g.last.drawn)=b3 at *
   generalize std.leI (std.len (frI (af bf g.last.play) (ab g.last.play))) 7=b4 at *
   generalize std.leI (std.lenS g.last.drawn) (std.len (frI (af bf g.last.play) (ab g.last.play)))=b5 at *
   generalize std.leI (std.add (std.sub (std.lenS (std.get [] g.racks g.last.player)) (std.lenS g.last.drawn)) (std.len (frI (af bf g.last.play) (ab g.last.play)))) 7=b6 at *
   generalize std.and (std.eqI (fL bf g.last.play).size g.bd.size) (std.and (std.eqS (fL bf g.last.play).prem g.bd.prem) (std.eqS (fL bf g.last.play).cells g.bd.cells))=b7 at *
   generalize std.eqI g.last.score (cG g.ts bf g.last.play)=b8 at *
   generalize std.leI g.last.score 20000=b9 at *)
 all_goals (simp_all)
end Ax
end Go.Proofs.YtjjonmhpgkahoaaGreatDoor
