/-
  FnChallenges: the tied card: whatever the arguments, the law returns true and they read as they did.
  Conditions: none of ours.
-/
import Derived.Test.YtjjonmhpgkahoaaGreatDoorCards
import Derived.Test.YtjjonmhpgkahoaaGreatDoorTie
import Derived.Test.YtjjonmhpgkahoaaGreatDoorH50
import Derived.SevenTiedAt
namespace Go.Proofs.YtjjonmhpgkahoaaGreatDoor
open Go
set_option maxRecDepth 100000
theorem ccF:Tryz.prog.funcNamed Rows.fnChallengesRow.func=some 8:=by kernel_rfl
theorem fnChallenges_card:Rows.FnChallengesCardSaid:=
 Claim7.holds_tied_plain_at .later [] [.data,.data,.data,.data,.pinned,.pinned] true (true,"a6cd975f7b85bf79fddec7b2904bc86e927927bace15312b90c3b080798d8224") false
  fnChallenges_holds (fun _ h=>by cases h) (by as_aux_lemma=>kernel_rfl) (fun _ h=>by cases h) fnChallenges_row_tie rfl ⟨rfl,rfl⟩ (by as_aux_lemma=>kernel_rfl) rfl
  (fun f fn hf hfn=>by
    obtain rfl:f=8:=Option.some.inj (ccF.symm.trans hf) |>.symm
    obtain rfl:fn=Tryz.f8:=(Option.some.inj (Tryz.func8.symm.trans hfn)).symm
    exact⟨by as_aux_lemma=>kernel_rfl,fun j t ht=>by
     rw [Tryz.params8] at ht
     have hm:t∈[22]:=by simpa using Array.mem_of_getElem? ht
     have hall:([22].all fun u=>!Tryz.prog.wantsStandIn u)=true:=by as_aux_lemma=>kernel_rfl
     exact (show Tryz.prog.wantsStandIn t=false by simpa using List.all_eq_true.1 hall t hm)⟩)
  (by as_aux_lemma=>kernel_rfl)
#print axioms fnChallenges_card
end Go.Proofs.YtjjonmhpgkahoaaGreatDoor
