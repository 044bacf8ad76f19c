/-
  What the laws of quiet turns are handed: walked.
  Conditions: none.
-/
import Derived.Test.YtjjonmhpgkahoaaGreatDoorE43
set_option linter.unusedSimpArgs false
set_option linter.unusedVariables false
namespace Go.Proofs.YtjjonmhpgkahoaaGreatDoor
namespace Ax
set_option maxRecDepth 100000
set_option maxHeartbeats 20000000
def rGI:NRes (Gm×Int):=⟨fun _ l=>match l with
 | [.agg c,.i .i64 n]=>both' (gmOf c) (some n)
 | _=>none,fun _=>[],fun a=>.tup [.agg (gmR a.1),.i .i64 a.2]⟩
def sp_s_DrawPassTurn (_:Pr):NSpec:=nsp (mN (a1 aY)) (fun code=>CdP code) (fun code=>rGI) (fun code (x,n)=>BeB x)
theorem ok_s_DrawPassTurn:NOk Tryz.prog 24 (sp_s_DrawPassTurn std):=by
 refine NOk.go (c:=cxN std [(61,sp_s_l00From std)] [(93,sp_s_l18Seconds std)] [(87,sp_s_l18Bent std)] 0 (if false then some stdU else none) []) (cxN_ok (.cons ok_s_l00From .nil) (.cons ok_s_l18Seconds .nil) (.cons ok_s_l18Bent .nil)) mixed Tryz.func24 rfl rfl (by kernel_rfl) ?_
 rintro code hp
 refine⟨rfl,?_⟩
 unfold sp_s_l00From sp_s_l18Bent sp_s_l18Seconds
 generalize hP:std=p,hB0:far=B0,hB1:secV=B1,hB2:secS=B2
 cbv
 repeat' first
  | (refine fun (_:Unit)=>?_;cbv)
  | (refine fun (y:Nd _) hy=>?_;cbv)
  | (refine aI2 (fun h=>?_) (fun h=>?_)<;>cbv)
  | (refine aI2 ?_ ?_)
  | (refine Or.inl (fun (_:Unit)=>?_);cbv)
 all_goals subst hP hB0 hB1 hB2
 all_goals try exact fin
 ·exact hp.s (by decide)
 ·exact (hy.1.s 0 (hp.s (Int.le_refl 0))).le (by decide)
 ·exact hy.2
end Ax
end Go.Proofs.YtjjonmhpgkahoaaGreatDoor
