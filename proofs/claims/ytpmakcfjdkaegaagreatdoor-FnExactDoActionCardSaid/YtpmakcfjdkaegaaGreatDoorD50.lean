/-
  What an action leads to, of the impl package; The laws package: the law of DoAction.
  Conditions: as each part below says.
-/
import Derived.Test.YtpmakcfjdkaegaaGreatDoorD49
import Derived.Test.YtpmakcfjdkaegaaGreatDoorD19
import Derived.Test.YtpmakcfjdkaegaaGreatDoorD20
import Derived.Test.YtpmakcfjdkaegaaGreatDoorD41
set_option linter.unusedSimpArgs false
set_option linter.unusedVariables false
namespace Go.Proofs.YtpmakcfjdkaegaaGreatDoor
namespace Ax
set_option maxRecDepth 100000
set_option maxHeartbeats 2000000
def sp_i_DoAction (p:Pr):FSpec:=fsp (ac (aA aGm) (a1 (aA aAc))) (fun (g,a)=>DiP g a) (fun (g,a)=>.tup [.agg (gmO6 (daR g a)),.i .i64 (daP g a),.i .i64 (daC g a)]) (fun (g,a)=>gmH6 (daR g a))
def spDiN (p:Pr):FSpec:=fsp (ac (aA aGm) (a1 (aA aAc))) (fun (g,a)=>DiN g a) (fun (g,a)=>.tup [.agg (gmO6 gm0),.i .i64 0,.i .i64 1]) (fun _=>gmH6 gm0)
theorem okDiN:FOk Tryz.prog 13 (spDiN std):=FOk.own ok_i_DoAction_n rfl fun ⟨g,a⟩ w e u h hr=>
 tup_fol (.cons (agg_fol (esl_fol h)) (.cons (fun _ h=>h) (.cons (fun _ h=>h) .nil))) u hr
theorem ok_i_DoAction:FOk Tryz.prog 13 (sp_i_DoAction std):=FOk.casesE ok_i_DoAction_y okDiN fun ⟨g,a⟩ hp=>by
 by_cases hc:(gameB g&&actB a)=true
 ·have h:=hc
  rw [Bool.and_eq_true] at h
  refine .inl ⟨⟨hp,h.1,h.2⟩,?_,?_⟩
  ·show _=PV.tup [.agg (gmO6 (daR g a)),.i .i64 (daP g a),.i .i64 (daC g a)]
   unfold daR daP daC
   rw [if_pos hc,if_pos hc,if_pos hc]
  ·show _=gmH6 (daR g a)
   unfold daR
   rw [if_pos hc]
 ·refine .inr ⟨⟨hp,by simpa using hc⟩,?_,?_⟩
  ·show _=PV.tup [.agg (gmO6 (daR g a)),.i .i64 (daP g a),.i .i64 (daC g a)]
   unfold daR daP daC
   rw [if_neg hc,if_neg hc,if_neg hc]
  ·show _=gmH6 (daR g a)
   unfold daR
   rw [if_neg hc]
end Ax
end Go.Proofs.YtpmakcfjdkaegaaGreatDoor
namespace Go.Proofs.YtpmakcfjdkaegaaGreatDoor
namespace Ax
set_option maxRecDepth 100000
set_option maxHeartbeats 20000000
theorem eta_gmd (g:Gm):Gm.mk g.ts g.lex g.bd0 g.secs g.rule g.bd g.bag g.racks g.scores g.clocks g.player g.zeros g.last g.over=g:=rfl
theorem turnR_nd {g:Gm} {q:Pl} {n:Int} (h:GmN g):GmN (turnR g q n):=by
 obtain⟨⟨⟨h1,h2⟩,h3⟩,h4,h5,h6⟩:=h
 have e:GmN (turn1 g q n):=⟨⟨⟨h1,h2⟩,h3⟩,by show ((g.racks.set _ _).length : Int)≤_;rw [List.length_set];exact h4,by show ((g.scores.set _ _).length : Int)≤_;rw [List.length_set];exact h5,by show ((g.clocks.set _ _).length : Int)≤_;rw [List.length_set];exact h6⟩
 unfold turnR
 split
 ·unfold turnG
  split
  ·exact⟨e.su,e.r,by show (2:Int)≤_;decide,e.k⟩
  ·exact e
 ·exact⟨⟨⟨by decide,by decide⟩,by decide⟩,by decide,by decide,by decide⟩
theorem setSc_nd (g:Gm):((setSc g).length : Int)≤1073741824:=by show (2:Int)≤_;decide
theorem chR_nd {g:Gm} {n:Int} (h:GmN g):GmN (chR g n):=by
 obtain⟨⟨⟨h1,h2⟩,h3⟩,h4,h5,h6⟩:=h
 have e6:((ckL g n).length : Int)≤1073741824:=by unfold ckL;rw [List.length_set];exact h6
 unfold chR
 split
 ·unfold chG
  split
  ·refine⟨⟨⟨h1,h2⟩,h3⟩,?_,?_,e6⟩
   ·show ((g.racks.set _ _).length : Int)≤_
    rw [List.length_set];exact h4
   ·show ((wSs (clockG g n)).length : Int)≤_
    unfold wSs
    split
    ·exact setSc_nd _
    ·show ((g.scores.set _ _).length : Int)≤_
     rw [List.length_set];exact h5
  ·unfold rfG
   split
   ·exact⟨⟨⟨h1,h2⟩,h3⟩,h4,setSc_nd _,e6⟩
   ·refine⟨⟨⟨h1,h2⟩,h3⟩,h4,?_,e6⟩
    show ((g.scores.set _ _).length : Int)≤_
    rw [List.length_set];exact h5
 ·exact⟨⟨⟨by decide,by decide⟩,by decide⟩,by decide,by decide,by decide⟩
theorem zeroG_n {g:Gm} {k n:Int} (h:GmN g):GmN (zeroG g k n):=by
 obtain⟨⟨⟨h1,h2⟩,h3⟩,h4,h5,h6⟩:=h
 have e6:((ckL g n).length : Int)≤1073741824:=by unfold ckL;rw [List.length_set];exact h6
 unfold zeroG
 split
 ·exact⟨⟨⟨h1,h2⟩,h3⟩,h4,setSc_nd _,e6⟩
 ·exact⟨⟨⟨h1,h2⟩,h3⟩,h4,h5,e6⟩
theorem gm0_n:GmN gm0:=⟨⟨⟨by decide,by decide⟩,by decide⟩,by decide,by decide,by decide⟩
theorem daR_n {g:Gm} {a:Ac} (h:GmN g):GmN (daR g a):=by
 unfold daR doG
 split
 ·split
  ·exact turnR_nd h
  ·split
   ·unfold xtR
    split
    ·refine zeroG_n ⟨h.su,?_,h.s,h.k⟩
     show ((g.racks.set _ _).length : Int)≤_
     rw [List.length_set];exact h.r
    ·exact gm0_n
   ·split
    ·unfold passR
     split
     ·exact zeroG_n h
     ·exact gm0_n
    ·exact chR_nd h
 ·exact gm0_n
theorem markGm_nd {g:Gm} {k:Int} (h:GmN g):GmN (markGm k g):=by
 obtain⟨⟨⟨h1,h2⟩,h3⟩,h4,h5,h6⟩:=h
 exact⟨⟨⟨by show ((marksN _ _).length : Int)≤_;rw [marksN_len];exact h1,by show ((marksN _ _).length : Int)≤_;rw [marksN_len];exact h2⟩,by show ((marksW _ _).length : Int)≤_;rw [marksW_len];exact h3⟩,
  by show ((marksW _ _).length : Int)≤_;rw [marksW_len];exact h4,by show ((marksN _ _).length : Int)≤_;rw [marksN_len];exact h5,by show ((marksN _ _).length : Int)≤_;rw [marksN_len];exact h6⟩
theorem lda (x:Gm) (h:std.ltI (endGm 1 x) 0=true):False:=by
 have:=lt_of h
 have:=(held_mark (k:=1) (by decide) x).2
 omega
theorem ldb (x:Gm) (h:std.ltI (heldGm (markGm 1 x) 1) 0=true):False:=by
 rw [(held_mark (k:=1) (by decide) x).1] at h
 exact lda x h
theorem ldd (x:Gm) (h:std.eqI (heldGm (markGm 1 x) 1) (endGm 1 x)=false):False:=by
 rw [(held_mark (k:=1) (by decide) x).1] at h
 exact eqI_f h rfl
structure LawD (g:Gm) (a:Ac):Prop where
 z:GmZ g
 a:AcZ a
def sp_l_FnExactDoAction (p:Pr):FSpec:=fsp (ac (aA aGm) (a1 (aA aAc))) (fun (g,a)=>LawD g a) (fun (g,a)=>.bt)
theorem ok_l_FnExactDoAction:FOk Tryz.prog 3 (sp_l_FnExactDoAction std):=by
 refine FOk.go (c:=cx std [(8,sp_l_szGame std),(9,sp_l_szAction std),(11,sp_l_toGame std),(12,sp_l_toAction std),(10,sp_s_DoAction std),(13,sp_i_DoAction std),(14,sp_l_eqGame std),(16,sp_l_heldGame std)] [(15,sp_l_markGame std)] 0) (cx_ok (.cons ok_l_szGame (.cons ok_l_szAction (.cons ok_l_toGame (.cons ok_l_toAction (.cons ok_s_DoAction (.cons ok_i_DoAction (.cons ok_l_eqGame (.cons ok_l_heldGame .nil)))))))) (.cons ok_l_markGame .nil)) mixed Tryz.func3 rfl rfl rfl (by kernel_rfl) ?_
 rintro ⟨g,a⟩ hp
 dsimp only at hp
 refine⟨rfl,?_⟩
 unfold sp_l_szGame sp_l_szAction sp_l_toGame sp_l_toAction sp_s_DoAction sp_i_DoAction sp_l_eqGame sp_l_heldGame sp_l_markGame
 generalize hP:std=p
 generalize hB0:szG=B0
 generalize hB1:szA=B1
 generalize hB2:daR=B2
 generalize hB3:daP=B3
 generalize hB4:daC=B4
 generalize hB5:qeGm=B5
 generalize hB6:heldGm=B6
 generalize hB7:endN=B7
 generalize hB8:endW=B8
 generalize hB9:endTs=B9
 generalize hB10:endSu=B10
 generalize hB11:endG1=B11
 generalize hB12:endG2=B12
 generalize hB13:endGm=B13
 generalize hB14:markN=B14
 generalize hB15:markW=B15
 cbv
 repeat' first
  | (refine fun (_:Unit)=>?_;cbv)
  | (refine And.intro (fun h=>?_) (fun h=>?_)<;>cbv)
  | (refine And.intro ?_ ?_)
  | (refine Or.inl (fun (_:Unit)=>?_);cbv)
 all_goals subst hP hB0 hB1 hB2 hB3 hB4 hB5 hB6 hB7 hB8 hB9 hB10 hB11 hB12 hB13 hB14 hB15
 all_goals try exact fin
 all_goals (try simp only [eta_ts,eta_bd,eta_pl,eta_la,eta_ac,eta_gmd] at *)
 ·exact⟨by decide,by decide⟩
 ·have h0:0≤szG 1048576 g:=ge_of h
  exact⟨h0,Int.le_trans (zG h0).2.1 (by decide)⟩
 all_goals have h0:0≤szG 1048576 g:=ge_of (by with_reducible assumption)
 all_goals have h1:0≤szA (szG 1048576 g) a:=ge_of (by with_reducible assumption)
 all_goals have hB:=(zG h0).2.2
 all_goals have hN:=hB.n (by decide)
 all_goals have hR:=daR_n (a:=a) hN
 all_goals have hw:(a.play.word.length:Int)≤1048576:=Int.le_trans (zA h1).2.2.1 (zG h0).2.1
 all_goals have ht:(a.tiles.length:Int)≤1048576:=Int.le_trans (zA h1).2.2.2 (zG h0).2.1
 all_goals have hs:=hB.s (q:=⟨0,0,false,[]⟩) (by decide) (by decide)
 all_goals have hq:=hB.q (q:=⟨0,0,false,[]⟩) (by decide) (by decide)
 ·exact hN
 ·exact⟨hs.gm,hs.own,by omega,by omega⟩
 ·exact hN
 ·exact⟨hq.gm,hq.cp,by omega,by omega⟩
 ·exact hR
 ·exact hN
 ·exact hN
 ·have e:qeGm g g=false:=by with_reducible assumption
  rw [qeGm_r] at e;cases e
 ·exact⟨by decide,by decide,hN⟩
 ·exact hR
 ·exact⟨by decide,by decide,hR⟩
 ·exact⟨by decide,by decide,markGm_nd hR⟩
 ·exact (ldb (daR g a) h).elim
 ·exact (ldd (daR g a) h).elim
 ·exact hN
 ·exact⟨hq.gm,hq.cp,by omega,by omega⟩
 ·exact hR
 ·exact⟨by decide,by decide,markGm_nd hR⟩
 ·exact (lda g h).elim
 ·rw [qeGm_r] at h;cases h
end Ax
end Go.Proofs.YtpmakcfjdkaegaaGreatDoor
