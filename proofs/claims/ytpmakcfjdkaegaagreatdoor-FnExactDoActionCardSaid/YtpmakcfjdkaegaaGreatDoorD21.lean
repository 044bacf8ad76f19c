/-
  Valid games, of the spec package.
  Conditions: as each part below says.
-/
import Derived.Test.YtpmakcfjdkaegaaGreatDoorD20
set_option linter.unusedSimpArgs false
set_option linter.unusedVariables false
namespace Go.Proofs.YtpmakcfjdkaegaaGreatDoor
namespace Ax
set_option maxRecDepth 100000
set_option maxHeartbeats 2000000
def suB (u:Su):Bool:=tsB u.ts&&(lexB u.lex&&(bdB u.bd&&((lettersS u.bd).isEmpty &&(inR u.secs 0 36000&&inR u.rule 0 3))))
structure SuL (u:Su):Prop where
 ts:TsL u.ts
 ws:WsP u.lex
 bd:BdP u.bd
def sp_s_l18Setup (p:Pr):FSpec:=fsp (a1 (aP aSu)) (fun u=>SuL u) (fun u=>.b (suB u))
theorem ok_s_l18Setup:FOk Tryz.prog 83 (sp_s_l18Setup std):=by
 refine FOk.go (c:=cx std [(138,sp_s_l02Ok std),(139,sp_s_l05Ok std),(84,sp_s_l11Ok std),(90,sp_s_l11Letters std),(86,sp_s_l00In std)] [] 0) (cx_ok (.cons ok_s_l02Ok (.cons ok_s_l05Ok (.cons ok_s_l11Ok (.cons ok_s_l11Letters (.cons ok_s_l00In .nil))))) .nil) mixed Tryz.func83 rfl rfl rfl (by kernel_rfl) ?_
 rintro u hp
 refine⟨rfl,?_⟩
 unfold sp_s_l02Ok sp_s_l05Ok sp_s_l11Ok sp_s_l11Letters sp_s_l00In
 generalize hP:std=p
 generalize hB0:suB=B0
 generalize hB1:tsB=B1
 generalize hB2:lexB=B2
 generalize hB3:bdB=B3
 generalize hB4:lettersS=B4
 generalize hB5:inR=B5
 cbv
 repeat' first
  | (refine fun (_:Unit)=>?_;cbv)
  | (refine And.intro (fun h=>?_) (fun h=>?_)<;>cbv)
  | (refine And.intro ?_ ?_)
  | (refine Or.inl (fun (_:Unit)=>?_);cbv)
 all_goals subst hP hB0 hB1 hB2 hB3 hB4 hB5
 all_goals try exact fin
 ·exact hp.bd
 ·exact hp.bd
 all_goals (unfold suB;simp [*] at *;try simp [*])
structure PkP (g:Gm):Prop where
 ts:TsOk g.ts
 rk2:g.racks.length=2
 ply:g.player=0∨g.player=1
 rk : ∀k,(g.rk k).length ≤7
 bf:BdP g.bef
 wd:g.last.play.word.length≤274877906944
 dr:g.last.drawn.length≤274877906944
def frN (g:Gm):Int:=std.len (frI (flatB g.bef g.last.play) (flatP g.last.play))
def bdE (a b:Bd):Bool:=std.and (std.eqI a.size b.size) (std.and (std.eqS a.prem b.prem) (std.eqS a.cells b.cells))
theorem pk_eq (g:Gm):playOk g=(std.eqI g.last.player (std.sub 1 g.player)&&(okB g.bef g.last.play&&(inR g.last.zeros 0 5&&(std.eqI g.zeros 0&&(bagB g.last.drawn&&(takeB (std.get [] g.racks g.last.player) (isort g.last.drawn)&&(std.leI (frN g) 7&&(std.leI (std.lenS g.last.drawn) (frN g)&&(std.leI (std.add (std.sub (std.lenS (std.get [] g.racks g.last.player)) (std.lenS g.last.drawn)) (frN g)) 7&&(bdE (madeS g.bef g.last.play) g.bd&&(std.eqI g.last.score (scoreV g.ts g.bef g.last.play)&&std.leI g.last.score 20000))))))))))):=by
 unfold playOk frN
 rw [sd_len,fr_n]
 congr 6
 congr 1
 ·rw [sd_leI,Bool.eq_iff_iff,decide_eq_true_eq,decide_eq_true_eq];omega
 congr 1
 rw [sd_leI,sd_lenS,Bool.eq_iff_iff,decide_eq_true_eq,decide_eq_true_eq];omega
structure PlayF (g:Gm):Prop where
 ply:std.inL g.last.player (std.len g.racks)
 pl:PlP g.bef g.last.play
 fr:(frI (flatB g.bef g.last.play) (flatP g.last.play)).length ≤15
 dr:g.last.drawn.length≤120
 rk:(g.rk g.last.player).length ≤7
 so:(isort g.last.drawn).length ≤120
theorem pk_ply {g:Gm} (hp:PkP g) (h1:std.eqI g.last.player (std.sub 1 g.player)=true):std.inL g.last.player (std.len g.racks):=by
 have h2:=hp.rk2
 have h3:g.last.player=1-g.player:=by simpa using h1
 refine⟨?_,?_⟩
 ·rcases hp.ply with h | h<;>omega
 ·show g.last.player<(g.racks.length:Int)
  rcases hp.ply with h | h<;>omega
theorem bag_len {s:List UInt8} (h:bagB s=true):s.length≤120:=by
 unfold bagB at h
 simp only [Bool.and_eq_true,decide_eq_true_eq] at h
 exact h.2
theorem pk_f {g:Gm} (hp:PkP g) (h1:std.eqI g.last.player (std.sub 1 g.player)=true) (h2:okB g.bef g.last.play=true) (h3:bagB g.last.drawn=true):PlayF g:=by
 have h4:=okB_on h2
 have h5:=frI_len (flatB g.bef g.last.play) (flatP g.last.play)
 have h6:=h4.on.len
 exact⟨pk_ply hp h1,h4,by omega,bag_len h3,hp.rk _,by rw [isort_length];exact bag_len h3⟩
def sp_s_l18PlayOk (p:Pr):FSpec:=fsp (a1 (aP aGm)) (fun g=>PkP g) (fun g=>.b (playOk g))
theorem ok_s_l18PlayOk:FOk Tryz.prog 147 (sp_s_l18PlayOk std):=by
 refine FOk.go (c:=cx std [(199,sp_s_l18Board std),(200,sp_s_l12Ok std),(86,sp_s_l00In std),(85,sp_s_l17Ok std),(155,sp_s_l12Flat std),(201,sp_s_l12Fresh std),(156,sp_s_l03Take std),(88,sp_s_l03Sort std),(159,sp_s_l12Make std),(152,sp_s_l13Score std)] [] 0) (cx_ok (.cons ok_s_l18Board (.cons ok_s_l12Ok (.cons ok_s_l00In (.cons ok_s_l17Ok (.cons ok_s_l12Flat (.cons ok_s_l12Fresh (.cons ok_s_l03Take (.cons ok_s_l03Sort (.cons ok_s_l12Make (.cons ok_s_l13Score .nil)))))))))) .nil) mixed Tryz.func147 rfl rfl rfl (by kernel_rfl) ?_
 rintro g hp
 refine⟨rfl,?_⟩
 unfold sp_s_l18Board sp_s_l12Ok sp_s_l00In sp_s_l17Ok sp_s_l12Flat sp_s_l12Fresh sp_s_l03Take sp_s_l03Sort sp_s_l12Make sp_s_l13Score
 generalize hP:std=p
 generalize hB0:playOk=B0
 generalize hB1:okB=B1
 generalize hB2:flatB=B2
 generalize hB3:flatP=B3
 generalize hB4:frI=B4
 generalize hB5:takeB=B5
 generalize hB6:takeS=B6
 generalize hB7:isort=B7
 generalize hB8:bagB=B8
 generalize hB9:madeS=B9
 generalize hB10:scoreV=B10
 generalize hB11:inR=B11
 cbv
 repeat' first
  | (refine fun (_:Unit)=>?_;cbv)
  | (refine And.intro (fun h=>?_) (fun h=>?_)<;>cbv)
  | (refine And.intro ?_ ?_)
  | (refine Or.inl (fun (_:Unit)=>?_);cbv)
 all_goals subst hP hB0 hB1 hB2 hB3 hB4 hB5 hB6 hB7 hB8 hB9 hB10 hB11
 all_goals try exact fin
 ·exact in64 (by show _≤1-g.player∧1-g.player≤_;rcases hp.ply with h | h<;>omega)
 ·exact⟨hp.bf,hp.wd⟩
 ·exact ltM_of hp.dr
 ·rw [pk_eq,show bagB g.last.drawn=false by assumption];simp
 all_goals try (have F:=pk_f hp (by assumption) (by assumption) (by assumption))
 ·exact F.pl.fit
 ·exact F.pl.on
 ·exact F.ply
 ·exact ltM_of hp.dr
 ·exact ltM_of (n:=(g.rk g.last.player).length) (Nat.le_trans F.rk (by decide))
 ·exact ltM_of (Nat.le_trans F.so (by decide))
 ·exact F.ply
 ·have a1:=F.rk
  have a2:=F.dr
  exact in64 (by show _≤((g.rk g.last.player).length : Int)-g.last.drawn.length∧((g.rk g.last.player).length : Int)-g.last.drawn.length≤_;omega)
 ·have a1:=F.rk
  have a2:=F.dr
  have a3:=F.fr
  exact in64 (by show _≤((g.rk g.last.player).length : Int)-g.last.drawn.length+(frI (flatB g.bef g.last.play) (flatP g.last.play)).length ∧((g.rk g.last.player).length : Int)-g.last.drawn.length+(frI (flatB g.bef g.last.play) (flatP g.last.play)).length ≤_;omega)
 ·exact F.pl
 ·exact⟨hp.ts,F.pl⟩
 all_goals (clear hp;try clear F)
 all_goals (rw [pk_eq];unfold frN bdE;try simp only [Bool.not_true,Bool.not_false] at *)
 all_goals first
  | (rw [show std.eqI g.last.player (std.sub 1 g.player)=false by assumption];rfl)
  | rw [show std.eqI g.last.player (std.sub 1 g.player)=true by assumption,Bool.true_and]
 all_goals first
  | (rw [show okB g.bef g.last.play=false by assumption];rfl)
  | rw [show okB g.bef g.last.play=true by assumption,Bool.true_and]
 all_goals first
  | (rw [show inR g.last.zeros 0 5=false by assumption];rfl)
  | rw [show inR g.last.zeros 0 5=true by assumption,Bool.true_and]
 all_goals try (show std.leI g.last.score 20000=_)
 all_goals (try unfold Gm.bef;try simp only [eta_bd,eta_pl] at *;generalize (⟨g.bd.size,g.bd.prem,g.last.before⟩:Bd)=bf at *)
 all_goals
  (generalize std.eqI g.zeros 0=b1 at *
   generalize bagB g.last.drawn=b2 at *
   generalize takeB (std.get [] g.racks g.last.player) (isort g.last.drawn)=b3 at *
   generalize std.leI (std.len (frI (flatB bf g.last.play) (flatP g.last.play))) 7=b4 at *
   generalize std.leI (std.lenS g.last.drawn) (std.len (frI (flatB bf g.last.play) (flatP g.last.play)))=b5 at *
   generalize std.leI (std.add (std.sub (std.lenS (std.get [] g.racks g.last.player)) (std.lenS g.last.drawn)) (std.len (frI (flatB bf g.last.play) (flatP g.last.play)))) 7=b6 at *
   generalize std.and (std.eqI (madeS bf g.last.play).size g.bd.size) (std.and (std.eqS (madeS bf g.last.play).prem g.bd.prem) (std.eqS (madeS bf g.last.play).cells g.bd.cells))=b7 at *
   generalize std.eqI g.last.score (scoreV g.ts bf g.last.play)=b8 at *
   generalize std.leI g.last.score 20000=b9 at *)
 all_goals (simp_all)
end Ax
end Go.Proofs.YtpmakcfjdkaegaaGreatDoor
