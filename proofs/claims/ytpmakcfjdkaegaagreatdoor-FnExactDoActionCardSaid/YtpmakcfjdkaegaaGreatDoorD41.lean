/-
  The laws package: actions: sizes, what is handed on.
  Conditions: as each part below says.
-/
import Derived.Test.YtpmakcfjdkaegaaGreatDoorD31
import Derived.Test.YtpmakcfjdkaegaaGreatDoorD40
set_option linter.unusedSimpArgs false
set_option linter.unusedVariables false
namespace Go.Proofs.YtpmakcfjdkaegaaGreatDoor
namespace Ax
set_option maxRecDepth 100000
set_option maxHeartbeats 20000000
def szA (n:Int) (a:Ac):Int:=szS (szP n a.play) a.tiles
theorem zA {n:Int} {a:Ac} (h:0≤szA n a):0≤n∧szA n a≤n∧(a.play.word.length:Int)≤n∧(a.tiles.length:Int)≤n:=by
 have h1:=zS h
 have h2:=zP h1.1
 unfold szA
 exact⟨h2.1,by omega,h2.2.2,by omega⟩
structure AcZ (a:Ac):Prop where
 w:(a.play.word.length:Int)≤9223372036854775807
 t:(a.tiles.length:Int)≤9223372036854775807
def sp_l_szAction (p:Pr):FSpec:=fsp (ac (aA aAc) (a1 aI)) (fun (a,n)=>NL n∧AcZ a) (fun (a,n)=>.i .i64 (szA n a))
theorem ok_l_szAction:FOk Tryz.prog 9 (sp_l_szAction std):=by
 refine FOk.go (c:=cx std [(40,sp_l_szPlay std)] [] 0) (cx_ok (.cons ok_l_szPlay .nil) .nil) mixed Tryz.func9 rfl rfl rfl (by kernel_rfl) ?_
 rintro ⟨a,n⟩ hp
 dsimp only at hp
 refine⟨rfl,?_⟩
 unfold sp_l_szPlay
 generalize hP:std=p
 generalize hB0:szA=B0
 generalize hB1:szP=B1
 cbv
 repeat' first
  | (refine fun (_:Unit)=>?_;cbv)
  | (refine And.intro (fun h=>?_) (fun h=>?_)<;>cbv)
  | (refine And.intro ?_ ?_)
  | (refine Or.inl (fun (_:Unit)=>?_);cbv)
 all_goals subst hP hB0 hB1
 all_goals try exact fin
 all_goals (try simp only [eta_pl] at *)
 all_goals obtain⟨⟨n0,n1⟩,hz⟩:=hp
 all_goals have hw:=hz.w
 all_goals have ht:=hz.t
 ·exact hw
 ·have h1:szP n a.play= -1:=by
   have:=lt_of h
   have : -1≤szP n a.play:=szL_ge (by omega) _
   omega
  rw [szA,h1,szS,szL_neg]
 all_goals have h0:0≤szP n a.play:=ge_of (by assumption)
 all_goals have hl:=(zP h0).2.1
 ·exact in64 (by show _≤szP n a.play-(a.tiles.length:Int)∧szP n a.play-(a.tiles.length:Int)≤_;omega)
 ·have h4:szP n a.play-(a.tiles.length:Int)<0:=lt_of h
  rw [szA,szS,szL_one h0,if_pos h4]
 ·have h4:0≤szP n a.play-(a.tiles.length:Int):=ge_of h
  rw [szA,szS,szL_one h0,if_neg (by omega)];rfl
def sp_l_toAction (p:Pr):FSpec:=fsp (a1 (aA aAc)) (fun a=>True) (fun a=>.agg (acK a))
theorem ok_l_toAction:FOk Tryz.prog 12 (sp_l_toAction std):=by
 refine FOk.go (c:=cx std [(48,sp_l_toPlay std)] [] 0) (cx_ok (.cons ok_l_toPlay .nil) .nil) mixed Tryz.func12 rfl rfl rfl (by kernel_rfl) ?_
 rintro a hp
 refine⟨rfl,?_⟩
 unfold sp_l_toPlay
 generalize hP:std=p
 cbv
 repeat' first
  | (refine fun (_:Unit)=>?_;cbv)
  | (refine And.intro (fun h=>?_) (fun h=>?_)<;>cbv)
  | (refine And.intro ?_ ?_)
  | (refine Or.inl (fun (_:Unit)=>?_);cbv)
 all_goals subst hP
 all_goals try exact fin
end Ax
end Go.Proofs.YtpmakcfjdkaegaaGreatDoor
