/-
  FnExactReplayRecord: the tied card: whatever the arguments, the law returns true and they read as they did; what the row lists is tied to the program's text.
  Conditions: none of ours.
-/
import Derived.Test.YtghmphmbpdiflaaGreatDoorCards
import Derived.Test.YtghmphmbpdiflaaGreatDoorTie
import Derived.Test.YtghmphmbpdiflaaGreatDoorE49
import Derived.SevenTiedAt
namespace Go.Proofs.YtghmphmbpdiflaaGreatDoor
open Go
set_option maxRecDepth 100000
theorem ccF:Tryz.prog.funcNamed Rows.fnExactReplayRecordRow.func=some 6:=by kernel_rfl
theorem fnExactReplayRecord_card:Rows.FnExactReplayRecordCardSaid:=
 Claim7.holds_tied_plain_at .later [] [.data,.data,.data,.data,.pinned,.pinned] true (true,"6379ef9485acdfe066a7e7806cf7d3b9ccceba2c3b737241f7c692e42e3ec4cb") false
  fnExactReplayRecord_holds (fun _ h=>by cases h) (by as_aux_lemma=>kernel_rfl) (fun _ h=>by cases h) fnExactReplayRecord_row_tie rfl ⟨rfl,rfl⟩ (by as_aux_lemma=>kernel_rfl) rfl
  (fun f fn hf hfn=>by
    obtain rfl:f=6:=Option.some.inj (ccF.symm.trans hf) |>.symm
    obtain rfl:fn=Tryz.f6:=(Option.some.inj (Tryz.func6.symm.trans hfn)).symm
    exact⟨by as_aux_lemma=>kernel_rfl,fun j t ht=>by
     rw [Tryz.params6] at ht
     have hm:t∈[69,72]:=by simpa using Array.mem_of_getElem? ht
     have hall:([69,72].all fun u=>!Tryz.prog.wantsStandIn u)=true:=by as_aux_lemma=>kernel_rfl
     exact (show Tryz.prog.wantsStandIn t=false by simpa using List.all_eq_true.1 hall t hm)⟩)
  (by as_aux_lemma=>kernel_rfl)
#print axioms fnExactReplayRecord_card
end Go.Proofs.YtghmphmbpdiflaaGreatDoor
