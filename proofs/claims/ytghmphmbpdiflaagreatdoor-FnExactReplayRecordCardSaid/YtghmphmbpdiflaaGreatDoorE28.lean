/-
  Actions: which are valid, what they lead to, of the spec package.
  Conditions: none.
-/
import Derived.Test.YtghmphmbpdiflaaGreatDoorE22
import Derived.Test.YtghmphmbpdiflaaGreatDoorE25
import Derived.Test.YtghmphmbpdiflaaGreatDoorE27
set_option linter.unusedSimpArgs false
set_option linter.unusedVariables false
namespace Go.Proofs.YtghmphmbpdiflaaGreatDoor
namespace Ax
set_option maxRecDepth 100000
set_option maxHeartbeats 20000000
structure Ac where
 kind:Int
 play:Pl
 tiles:List UInt8
 secs:Int
def acOf:List PV→Option Ac
 | [.i .i64 a,.i .i64 b,.i .i64 c,.b d,.s e,.s f,.i .i64 g]=>some ⟨a,⟨b,c,d,e⟩,f,g⟩
 | _=>none
def acK (a:Ac):List PV:=[.i .i64 a.kind,.i .i64 a.play.row,.i .i64 a.play.col,.b a.play.down,.s a.play.word,.s a.tiles,.i .i64 a.secs]
theorem acOf_eq {l:List PV} {a:Ac} (h:acOf l=some a):l=acK a:=by
 unfold acOf at h
 split at h
 ·cases h;rfl
 ·cases h
def aAc:Args Ac:=⟨acOf,acK,fun _ _=>acOf_eq⟩
@[simp] theorem eta_ac (a:Ac):Ac.mk a.kind a.play a.tiles a.secs=a:=rfl
def actB (a:Ac):Bool:=inR a.secs 0 36000&&(if a.kind=1 then plainB a.play&&a.tiles.isEmpty else if a.kind=2 then eqPl a.play pl0&&(!a.tiles.isEmpty&&rackB a.tiles) else if a.kind=3∨a.kind=4 then eqPl a.play pl0&&a.tiles.isEmpty else false)
structure AcL (a:Ac):Prop where
 w:a.play.word.length≤274877906944
 t:a.tiles.length≤274877906944
section
variable {a:Ac}
theorem eqP0 (q:Pl):eqPl q pl0=std.and (std.eqI q.row 0) (std.and (std.eqI q.col 0) (std.and (std.eqB q.down false) (std.eqS q.word []))):=rfl
theorem ac_n (h:inR a.secs 0 36000=false):actB a=false:=by unfold actB;rw [h,Bool.false_and]
theorem ac_1 (h:inR a.secs 0 36000=true) (k:std.eqI a.kind 1=true):actB a=(plainB a.play&&std.eqS a.tiles []):=by
 unfold actB
 rw [h,Bool.true_and,if_pos (eqI_t k),emp_iz]
theorem ac_2 (h:inR a.secs 0 36000=true) (k1:std.eqI a.kind 1=false) (k:std.eqI a.kind 2=true):actB a=(eqPl a.play pl0&&(!std.eqS a.tiles []&&rackB a.tiles)):=by
 unfold actB
 rw [h,Bool.true_and,if_neg (eqI_f k1),if_pos (eqI_t k),emp_iz]
theorem ac_34 (h:inR a.secs 0 36000=true) (k1:std.eqI a.kind 1=false) (k2:std.eqI a.kind 2=false) (k:std.eqI a.kind 3=true∨std.eqI a.kind 4=true):actB a=(eqPl a.play pl0&&std.eqS a.tiles []):=by
 unfold actB
 rw [h,Bool.true_and,if_neg (eqI_f k1),if_neg (eqI_f k2),if_pos (k.imp eqI_t eqI_t),emp_iz]
theorem ac_o (k1:std.eqI a.kind 1=false) (k2:std.eqI a.kind 2=false) (k3:std.eqI a.kind 3=false) (k4:std.eqI a.kind 4=false):actB a=false:=by
 unfold actB
 rw [if_neg (eqI_f k1),if_neg (eqI_f k2),if_neg (fun h=>h.elim (eqI_f k3) (eqI_f k4)),Bool.and_false]
end
def sp_s_l20Action (p:Pr):FSpec:=fsp (a1 (aP aAc)) (fun a=>AcL a) (fun a=>.b (actB a))
theorem ok_s_l20Action:FOk Tryz.prog 225 (sp_s_l20Action std):=by
 refine FOk.go (c:=cx std [(78,sp_s_l00In std),(261,sp_s_l12Plain std),(157,sp_s_l03Rack std)] [] 0) (cx_ok (.cons ok_s_l00In (.cons ok_s_l12Plain (.cons ok_s_l03Rack .nil))) .nil) mixed Tryz.func225 rfl rfl rfl (by kernel_rfl) ?_
 rintro a hp
 refine⟨rfl,?_⟩
 unfold sp_s_l00In sp_s_l12Plain sp_s_l03Rack
 generalize hP:std=p,hB0:actB=B0,hB1:plainB=B1,hB2:rackB=B2,hB3:inR=B3
 cbv
 repeat' first
  | (refine fun (_:Unit)=>?_;cbv)
  | (refine aI2 (fun h=>?_) (fun h=>?_)<;>cbv)
  | (refine aI2 ?_ ?_)
  | (refine Or.inl (fun (_:Unit)=>?_);cbv)
 all_goals subst hP hB0 hB1 hB2 hB3
 all_goals try exact fin
 all_goals (try simp only [eta_pl] at *)
 all_goals first
  | exact ltM_of hp.w
  | exact ltM_of hp.t
  | exact ac_n ‹_›
  | exact ac_o ‹_› ‹_› ‹_› ‹_›
  | (rw [ac_1 ‹_› ‹_›];simp only [*]<;>simp;done)
  | (rw [ac_2 ‹_› ‹_› ‹_›,eqP0];simp only [*]<;>simp;done)
  | (rw [ac_34 ‹_› ‹_› ‹_› (Or.inl ‹_›),eqP0];simp only [*]<;>simp;done)
  | (rw [ac_34 ‹_› ‹_› ‹_› (Or.inr ‹_›),eqP0];simp only [*]<;>simp;done)
  | skip
theorem eta_gma (g:Gm):Gm.mk g.ts g.lex g.bd0 g.secs g.rule g.bd g.bag g.racks g.scores g.clocks g.player g.zeros g.last g.over=g:=rfl
def doG (g:Gm) (a:Ac):Gm:=if a.kind=1 then turnR g a.play a.secs else if a.kind=2 then xtR g a.tiles a.secs else if a.kind=3 then passR g a.secs else chR g a.secs
def doP (g:Gm) (a:Ac):Int:=if a.kind=1 then turnS' g a.play a.secs else if a.kind=2 then 0 else if a.kind=3 then 0 else chP g a.secs
def doC (g:Gm) (a:Ac):Int:=if a.kind=1 then turnC g a.play a.secs else if a.kind=2 then xtC g a.tiles a.secs else if a.kind=3 then actC g a.secs else chC g a.secs
section
variable {g:Gm} {a:Ac}
theorem do_1 (k:std.eqI a.kind 1=true):doG g a=turnR g a.play a.secs∧doP g a=turnS' g a.play a.secs∧doC g a=turnC g a.play a.secs:=by
 have k:=eqI_t k
 exact⟨if_pos k,if_pos k,if_pos k⟩
theorem do_2 (k1:std.eqI a.kind 1=false) (k:std.eqI a.kind 2=true):doG g a=xtR g a.tiles a.secs∧doP g a=0∧doC g a=xtC g a.tiles a.secs:=by
 have k:=eqI_t k;have k1:=eqI_f k1
 exact⟨(if_neg k1).trans (if_pos k),(if_neg k1).trans (if_pos k),(if_neg k1).trans (if_pos k)⟩
theorem do_3 (k1:std.eqI a.kind 1=false) (k2:std.eqI a.kind 2=false) (k:std.eqI a.kind 3=true):doG g a=passR g a.secs∧doP g a=0∧doC g a=actC g a.secs:=by
 have k:=eqI_t k;have k1:=eqI_f k1;have k2:=eqI_f k2
 exact⟨(if_neg k1).trans ((if_neg k2).trans (if_pos k)),(if_neg k1).trans ((if_neg k2).trans (if_pos k)),(if_neg k1).trans ((if_neg k2).trans (if_pos k))⟩
theorem do_4 (k1:std.eqI a.kind 1=false) (k2:std.eqI a.kind 2=false) (k:std.eqI a.kind 3=false):doG g a=chR g a.secs∧doP g a=chP g a.secs∧doC g a=chC g a.secs:=by
 have k:=eqI_f k;have k1:=eqI_f k1;have k2:=eqI_f k2
 exact⟨(if_neg k1).trans ((if_neg k2).trans (if_neg k)),(if_neg k1).trans ((if_neg k2).trans (if_neg k)),(if_neg k1).trans ((if_neg k2).trans (if_neg k))⟩
end
structure DoL (g:Gm) (a:Ac):Prop where
 gm:GmL g
 own:GmP g
 w:a.play.word.length≤1073741824
 t:a.tiles.length≤1073741824
def sp_s_l20Do (p:Pr):FSpec:=fsp (ac (aA aGm) (a1 (aP aAc))) (fun (g,a)=>DoL g a) (fun (g,a)=>.tup [.agg (gmO6 (doG g a)),.i .i64 (doP g a),.i .i64 (doC g a)]) (fun (g,a)=>gmH6 (doG g a))
theorem ok_s_l20Do:FOk Tryz.prog 180 (sp_s_l20Do std):=by
 refine FOk.go (c:=cx std [(226,sp_s_PlayTurn std),(34,sp_s_ExchangeTurn std),(35,sp_s_PassTurn std),(227,sp_s_ChallengeTurn std)] [] 0) (cx_ok (.cons ok_s_PlayTurn (.cons ok_s_ExchangeTurn (.cons ok_s_PassTurn (.cons ok_s_ChallengeTurn .nil)))) .nil) mixed Tryz.func180 rfl rfl rfl (by kernel_rfl) ?_
 rintro ⟨g,a⟩ hp
 dsimp only at hp
 refine⟨rfl,?_⟩
 unfold sp_s_PlayTurn sp_s_ExchangeTurn sp_s_PassTurn sp_s_ChallengeTurn
 generalize hP:std=p,hB0:doG=B0,hB1:doP=B1,hB2:doC=B2,hB3:turnR=B3,hB4:turnS'=B4,hB5:turnC=B5,hB6:xtR=B6,hB7:xtC=B7,hB8:passR=B8,hB9:actC=B9,hB10:chR=B10,hB11:chP=B11,hB12:chC=B12,hB13:chU=B13,hB14:chW=B14,hB15:chX=B15
 cbv
 repeat' first
  | (refine fun (_:Unit)=>?_;cbv)
  | (refine aI2 (fun h=>?_) (fun h=>?_)<;>cbv)
  | (refine aI2 ?_ ?_)
  | (refine Or.inl (fun (_:Unit)=>?_);cbv)
 all_goals subst hP hB0 hB1 hB2 hB3 hB4 hB5 hB6 hB7 hB8 hB9 hB10 hB11 hB12 hB13 hB14 hB15
 all_goals try exact fin
 all_goals (try simp only [eta_ts,eta_bd,eta_pl,eta_la,eta_ac,eta_gma] at *)
 all_goals first
  | exact (⟨hp.gm,hp.w,hp.own⟩:StP' g a.play)
  | exact (⟨⟨hp.gm,hp.own⟩,Nat.le_trans hp.t (by decide)⟩:XsP g a.tiles)
  | exact (⟨hp.gm,hp.own⟩:PsP g)
  | exact (⟨hp.gm,hp.own⟩:StC g)
  | (have e:=do_1 (g:=g) (a:=a) ‹_›;first | (rw [e.1];done) | (rw [e.2.1];done) | (rw [e.2.2];done))
  | (have e:=do_2 (g:=g) (a:=a) ‹_› ‹_›;first | (rw [e.1];done) | (rw [e.2.1];done) | (rw [e.2.2];done))
  | (have e:=do_3 (g:=g) (a:=a) ‹_› ‹_› ‹_›;first | (rw [e.1];done) | (rw [e.2.1];done) | (rw [e.2.2];done))
  | (have e:=do_4 (g:=g) (a:=a) ‹_› ‹_› ‹_›;first | (rw [e.1];done) | (rw [e.2.1];done) | (rw [e.2.2];done))
  | skip
def daR (g:Gm) (a:Ac):Gm:=if gameB g&&actB a then doG g a else gm0
def daP (g:Gm) (a:Ac):Int:=if gameB g&&actB a then doP g a else 0
def daC (g:Gm) (a:Ac):Int:=if gameB g&&actB a then doC g a else 1
theorem dy1 {b:Bool} (h:b=true) (h2:b=false):False:=by rw [h] at h2;cases h2
theorem dn1 {b c:Bool} (h:(b&&c)=false) (h2:b=true) (h3:c=true):False:=by rw [h2,h3] at h;cases h
end Ax
end Go.Proofs.YtghmphmbpdiflaaGreatDoor
