/-
  Valid games, codes of actions, turns with a play, of the spec package.
  Conditions: as each part below says.
-/
import Derived.Test.YtpmakcfjdkaegaaGreatDoorD28
set_option linter.unusedSimpArgs false
set_option linter.unusedVariables false
namespace Go.Proofs.YtpmakcfjdkaegaaGreatDoor
namespace Ax
set_option maxRecDepth 100000
set_option maxHeartbeats 2000000
def sp_s_l18LastOk (p:Pr):FSpec:=fsp (a1 (aP aGm)) (fun g=>PkP g) (fun g=>.b (lastOk g))
theorem ok_s_l18LastOk:FOk Tryz.prog 92 (sp_s_l18LastOk std):=by
 refine FOk.go (c:=cx std [(147,sp_s_l18PlayOk std),(86,sp_s_l00In std)] [] 0) (cx_ok (.cons ok_s_l18PlayOk (.cons ok_s_l00In .nil)) .nil) mixed Tryz.func92 rfl rfl rfl (by kernel_rfl) ?_
 rintro g hp
 refine⟨rfl,?_⟩
 unfold sp_s_l18PlayOk sp_s_l00In
 generalize hP:std=p
 generalize hB0:lastOk=B0
 generalize hB1:playOk=B1
 generalize hB2:inR=B2
 cbv
 repeat' first
  | (refine fun (_:Unit)=>?_;cbv)
  | (refine And.intro (fun h=>?_) (fun h=>?_)<;>cbv)
  | (refine And.intro ?_ ?_)
  | (refine Or.inl (fun (_:Unit)=>?_);cbv)
 all_goals subst hP hB0 hB1 hB2
 all_goals try exact fin
 all_goals try (have hb:eqLa g.last (idleL g.last.kind g.last.player)=true:=(by assumption))
 all_goals try (have hn:eqLa g.last (idleL g.last.kind g.last.player)=false:=(by assumption))
 ·have k0:g.last.kind=0:=eqI_t (by assumption)
  unfold lastOk
  rw [k0] at hb
  rw [if_pos k0,hb];rfl
 ·have k0:g.last.kind=0:=eqI_t (by assumption)
  unfold lastOk
  rw [k0] at hn
  rw [if_pos k0,hn];rfl
 ·have k0 : ¬g.last.kind=0:=eqI_f (by assumption)
  have k2:g.last.kind=2:=eqI_t (by assumption)
  unfold lastOk
  rw [if_neg k0,if_pos (Or.inl k2),hb];rfl
 ·have k0 : ¬g.last.kind=0:=eqI_f (by assumption)
  have k2:g.last.kind=2:=eqI_t (by assumption)
  unfold lastOk
  rw [if_neg k0,if_pos (Or.inl k2),hn];rfl
 ·have k0 : ¬g.last.kind=0:=eqI_f (by assumption)
  have k2:g.last.kind=3:=eqI_t (by assumption)
  unfold lastOk
  rw [if_neg k0,if_pos (Or.inr k2),hb];rfl
 ·have k0 : ¬g.last.kind=0:=eqI_f (by assumption)
  have k2:g.last.kind=3:=eqI_t (by assumption)
  unfold lastOk
  rw [if_neg k0,if_pos (Or.inr k2),hn];rfl
 all_goals have k0 : ¬g.last.kind=0:=eqI_f (by assumption)
 all_goals have k2 : ¬g.last.kind=2:=eqI_f (by assumption)
 all_goals have k3 : ¬g.last.kind=3:=eqI_f (by assumption)
 all_goals unfold lastOk
 all_goals rw [if_neg k0,if_neg (by rintro (h | h);exact k2 h;exact k3 h)]
 ·rw [if_pos (eqI_t (by assumption))]
 ·rw [if_neg (eqI_f (by assumption))]
structure GmL (g:Gm):Prop where
 su:SuL (gSu g)
 bd:BdP g.bd
 bag:g.bag.length≤274877906944
 rk : ∀k:Int,(g.rk k).length ≤274877906944
 bf:BdP g.bef
 wd:g.last.play.word.length≤274877906944
 dr:g.last.drawn.length≤274877906944
theorem s_shape {g:Gm} (h:shapeB g=false):gameB g=false:=by unfold gameB;rw [h];rfl
theorem s_two {g:Gm} (h:twoB g=false):gameB g=false:=by unfold gameB;rw [h];simp
theorem s_side {g:Gm} {k:Int} (h0:0≤k) (h1:k<2) (h:sideB g k.toNat=false):gameB g=false:=by
 have : k=0∨k=1:=by omega
 rcases this with rfl | rfl
 ·have h:sideB g 0=false:=h
  unfold gameB;rw [h];simp
 ·have h:sideB g 1=false:=h
  unfold gameB;rw [h];simp
theorem s_end {g:Gm} (h1:shapeB g=true) (h2:twoB g=true) (h3:sideB g 0=true) (h4:sideB g 1=true):gameB g=(gameTiles g==allT g.ts&&(lastOk g&&(g.over||decide (g.zeros<6)))):=by
 unfold gameB
 rw [h1,h2,h3,h4];rfl
structure GmS (g:Gm):Prop where
 fit:g.bd.Fit
 ts:tsB g.ts=true
 rk : ∀k:Int,(g.rk k).length ≤7
 r2:g.racks.length=2
 ply:g.player=0∨g.player=1
 bag:g.bag.length≤120
theorem gm_s {g:Gm} (h1:shapeB g=true) (h2:twoB g=true) (h3:sideB g 0=true) (h4:sideB g 1=true):GmS g:=by
 unfold shapeB setupB at h1
 unfold twoB at h2
 unfold sideB at h3 h4
 simp only [Bool.and_eq_true,decide_eq_true_eq] at h1 h2 h3 h4
 have hp:=in_bd h2.2.2.2.1
 refine⟨bdB.fit h1.2.1,h1.1.1,fun k=>?_,h2.1,by omega,bag_len h1.2.2.2.2⟩
 unfold Gm.rk
 rcases (show k.toNat=0∨k.toNat=1∨2≤k.toNat by omega) with h | h | h
 ·rw [h];exact rack_len h3.1
 ·rw [h];exact rack_len h4.1
 ·rw [List.getD_eq_getElem?_getD,List.getElem?_eq_none (by omega)];decide
theorem pkp_of {g:Gm} (hp:GmL g) (h:GmS g):PkP g:=⟨tsB_ok h.ts,h.r2,h.ply,h.rk,hp.bf,hp.wd,hp.dr⟩
def sp_s_l18Ok (p:Pr):FSpec:=fsp (a1 (aP aGm)) (fun g=>GmL g) (fun g=>.b (gameB g))
theorem ok_s_l18Ok:FOk Tryz.prog 41 (sp_s_l18Ok std):=by
 refine FOk.go (c:=cx std [(83,sp_s_l18Setup std),(84,sp_s_l11Ok std),(85,sp_s_l17Ok std),(86,sp_s_l00In std),(87,sp_s_l03Rack std),(90,sp_s_l11Letters std),(89,sp_s_l03Tiles std),(88,sp_s_l03Sort std),(91,sp_s_l02All std),(92,sp_s_l18LastOk std)] [] 0) (cx_ok (.cons ok_s_l18Setup (.cons ok_s_l11Ok (.cons ok_s_l17Ok (.cons ok_s_l00In (.cons ok_s_l03Rack (.cons ok_s_l11Letters (.cons ok_s_l03Tiles (.cons ok_s_l03Sort (.cons ok_s_l02All (.cons ok_s_l18LastOk .nil)))))))))) .nil) mixed Tryz.func41 rfl rfl rfl (by kernel_rfl) ?_
 rintro g hp
 refine⟨rfl,?_⟩
 unfold sp_s_l18Setup sp_s_l11Ok sp_s_l17Ok sp_s_l00In sp_s_l03Rack sp_s_l11Letters sp_s_l03Tiles sp_s_l03Sort sp_s_l02All sp_s_l18LastOk
 obtain⟨H,hH⟩ : ∃H:Hd (Int),H=⟨fun k=>0≤k∧k≤2∧(0<k→sideB g 0=true)∧(1<k→sideB g 1=true),fun k=>(2-k).toNat,(· < ·)⟩:=⟨_,rfl⟩
 have hl : ∀m n,H.lt m n→m<n:=by subst hH;exact fun _ _ h=>h
 generalize hP:std=p
 generalize hB0:gameB=B0
 generalize hB1:suB=B1
 generalize hB2:bdB=B2
 generalize hB3:bagB=B3
 generalize hB4:rackB=B4
 generalize hB5:inR=B5
 generalize hB6:lettersS=B6
 generalize hB7:tilesS=B7
 generalize hB8:isort=B8
 generalize hB9:allT=B9
 generalize hB10:lastOk=B10
 cbv
 repeat' first
  | (refine fun (_:Unit)=>?_;cbv)
  | (refine Or.inr ⟨90,[],[.s 3 (.i .i64)],[],[],H,rfl,hl,?_,fun (k:Int) hk=>?_⟩<;>cbv)
  | (refine And.intro (fun h=>?_) (fun h=>?_)<;>cbv)
  | (refine And.intro ?_ ?_)
 all_goals subst hP hB0 hB1 hB2 hB3 hB4 hB5 hB6 hB7 hB8 hB9 hB10 hH
 all_goals clear hl
 all_goals try dsimp only at hk
 all_goals try dsimp only
 all_goals try exact fin
 all_goals try (have hs:shapeB g=true:=by rw [shapeE];simp only [*,Bool.not_false,Bool.true_and,Bool.and_true])
 all_goals try (have htw:twoB g=true:=by rw [twoE];simp only [*,Bool.not_false,Bool.true_and,Bool.and_true])
 all_goals try (obtain⟨q0,q1,q2,q3⟩:=hk)
 all_goals try (have hlt:k<2:=lt_of (by assumption))
 all_goals try (have hge:2≤k:=ge_of (by assumption))
 all_goals try (have hsd0:=q2 (by omega);have hsd1:=q3 (by omega))
 all_goals try (have hS:=gm_s hs htw hsd0 hsd1;have hl:=lettersS_len g.bd hS.fit;have htl:=tilesS_len (lettersS g.bd);have hr0:=hS.rk 0;have hr1:=hS.rk 1;have hbg:=hS.bag)
 all_goals try (have hlo:lastOk g=true:=(by assumption))
 all_goals try (have hlf:lastOk g=false:=(by assumption))
 all_goals first
  | exact hp.su
  | exact ltM_of hp.bag
  | exact ltM_of (hp.rk k)
  | exact⟨Int.le_refl 0,by decide,fun h=>absurd h (by decide),fun h=>absurd h (by decide)⟩
  | (refine s_shape ?_;rw [shapeE];simp only [*,Bool.not_false,Bool.true_and,Bool.false_and];done)
  | (refine s_two ?_;rw [twoE];simp only [*,Bool.not_false,Bool.true_and,Bool.false_and,Bool.and_false];done)
  | exact s_side q0 hlt (side_n1 (by assumption))
  | exact s_side q0 hlt (side_n2 q0 (by assumption))
  | exact s_side q0 hlt (side_n3 q0 (by assumption))
  | exact side_suc q0 hlt q2 q3 (by assumption) (by assumption) (by assumption)
  | exact (tsB_all hS.ts).1
  | exact pkp_of hp hS
  | exact ltM_of (n:=(lettersS g.bd).length) (by omega)
  | exact in64 (by show _≤((tilesS (lettersS g.bd)).length : Int)+((g.rk 0).length : Int)∧((tilesS (lettersS g.bd)).length : Int)+((g.rk 0).length : Int)≤_;omega)
  | exact in64 (by show _≤((tilesS (lettersS g.bd)++g.rk 0).length : Int)+((g.rk 1).length : Int)∧((tilesS (lettersS g.bd)++g.rk 0).length : Int)+((g.rk 1).length : Int)≤_;rw [List.length_append];omega)
  | exact in64 (by show _≤(((tilesS (lettersS g.bd)++g.rk 0)++g.rk 1).length : Int)+(g.bag.length:Int)∧(((tilesS (lettersS g.bd)++g.rk 0)++g.rk 1).length : Int)+(g.bag.length:Int)≤_;rw [List.length_append,List.length_append];omega)
  | exact ltM_of (n:=(((tilesS (lettersS g.bd)++g.rk 0)++g.rk 1)++g.bag).length) (by rw [List.length_append,List.length_append,List.length_append];omega)
  | (rw [s_end hs htw hsd0 hsd1,show (gameTiles g==allT g.ts)=false by assumption];rfl)
  | (rw [s_end hs htw hsd0 hsd1,show (gameTiles g==allT g.ts)=true by assumption,hlf];rfl)
  | (rw [s_end hs htw hsd0 hsd1,show (gameTiles g==allT g.ts)=true by assumption,hlo,show g.over=true by assumption];rfl)
  | (rw [s_end hs htw hsd0 hsd1,show (gameTiles g==allT g.ts)=true by assumption,hlo,show g.over=false by assumption];rfl)
  | skip
end Ax
end Go.Proofs.YtpmakcfjdkaegaaGreatDoor
