/-
  FnExactDoAction: the tied card: whatever the arguments, the law returns true and they read as they did; what the row lists is tied to the program's text.
  Conditions: none of ours.
-/
import Derived.Test.YtpmakcfjdkaegaaGreatDoorCards
import Derived.Test.YtpmakcfjdkaegaaGreatDoorTie
import Derived.Test.YtpmakcfjdkaegaaGreatDoorD51
import Derived.SevenTiedAt
namespace Go.Proofs.YtpmakcfjdkaegaaGreatDoor
open Go
set_option maxRecDepth 100000
theorem ccF:Tryz.prog.funcNamed Rows.fnExactDoActionRow.func=some 3:=by kernel_rfl
theorem fnExactDoAction_card:Rows.FnExactDoActionCardSaid:=
 Claim7.holds_tied_plain_at .later [] [.data,.data,.data,.data,.pinned,.pinned] true (true,"be6e532bea60290134fd972aec0dde7409413be70cf918b5811ecc134787c3cf") false
  fnExactDoAction_holds (fun _ h=>by cases h) (by as_aux_lemma=>kernel_rfl) (fun _ h=>by cases h) fnExactDoAction_row_tie rfl ⟨rfl,rfl⟩ (by as_aux_lemma=>kernel_rfl) rfl
  (fun f fn hf hfn=>by
    obtain rfl:f=3:=Option.some.inj (ccF.symm.trans hf) |>.symm
    obtain rfl:fn=Tryz.f3:=(Option.some.inj (Tryz.func3.symm.trans hfn)).symm
    exact⟨by as_aux_lemma=>kernel_rfl,fun j t ht=>by
     rw [Tryz.params3] at ht
     have hm:t∈[37,39]:=by simpa using Array.mem_of_getElem? ht
     have hall:([37,39].all fun u=>!Tryz.prog.wantsStandIn u)=true:=by as_aux_lemma=>kernel_rfl
     exact (show Tryz.prog.wantsStandIn t=false by simpa using List.all_eq_true.1 hall t hm)⟩)
  (by as_aux_lemma=>kernel_rfl)
#print axioms fnExactDoAction_card
end Go.Proofs.YtpmakcfjdkaegaaGreatDoor
