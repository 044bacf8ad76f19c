/-
  FnExactBestTurn: the tied card: whatever the arguments, the law returns true and they read as they did; what the row lists is tied to the program's text.
  Conditions: as each part below says.
-/
import Derived.Test.YtmomiifkdfmahaaGreatDoorCards
import Derived.Test.YtmomiifkdfmahaaGreatDoorTie
import Derived.Test.YtmomiifkdfmahaaGreatDoorC50
import Derived.SevenTiedAt
set_option linter.unusedSimpArgs false
set_option linter.unusedVariables false
namespace Go.Proofs.YtmomiifkdfmahaaGreatDoor
open Go
set_option maxRecDepth 100000
theorem ccF:Tryz.prog.funcNamed Rows.fnExactBestTurnRow.func=some 4:=by kernel_rfl
theorem fnExactBestTurn_card:Rows.FnExactBestTurnCardSaid:=
 Claim7.holds_tied_plain_at .later [] [.data,.data,.data,.data,.pinned,.pinned] true (true,"46e08efd10ef2b878f361416ea85352538c63fbec3d7fe24c3a844bc07ee0e05") false
  fnExactBestTurn_holds (fun _ h=>by cases h) (by as_aux_lemma=>kernel_rfl) (fun _ h=>by cases h) fnExactBestTurn_row_tie rfl ⟨rfl,rfl⟩ (by as_aux_lemma=>kernel_rfl) rfl
  (fun f fn hf hfn=>by
    obtain rfl:f=4:=Option.some.inj (ccF.symm.trans hf) |>.symm
    obtain rfl:fn=Tryz.f4:=(Option.some.inj (Tryz.func4.symm.trans hfn)).symm
    exact⟨by as_aux_lemma=>kernel_rfl,fun j t ht=>by
     rw [Tryz.params4] at ht
     have hm:t∈[31,34]:=by simpa using Array.mem_of_getElem? ht
     have hall:([31,34].all fun u=>!Tryz.prog.wantsStandIn u)=true:=by as_aux_lemma=>kernel_rfl
     exact (show Tryz.prog.wantsStandIn t=false by simpa using List.all_eq_true.1 hall t hm)⟩)
  (by as_aux_lemma=>kernel_rfl)
#print axioms fnExactBestTurn_card
end Go.Proofs.YtmomiifkdfmahaaGreatDoor
