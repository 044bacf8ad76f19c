/-
  FnExactMissingMoves: the tied card: whatever the arguments, the law returns true and they read as they did; what the row lists is tied to the program's text.
  Conditions: none of ours.
-/
import Derived.Test.YtohopceknpgcnaaGreatDoorCards
import Derived.Test.YtohopceknpgcnaaGreatDoorTie
import Derived.Test.YtohopceknpgcnaaGreatDoorM31
import Derived.SevenTiedAt
namespace Go.Proofs.YtohopceknpgcnaaGreatDoor
open Go
set_option maxRecDepth 100000

theorem fnExactMissingMoves_card : Rows.FnExactMissingMovesCardSaid :=
  Claim7.holds_tied_plain_at .later [] [.data, .pinned, .pinned] true (true, "e0f2e3834fe14f63ca4875db26c73574471839c88505f56234222e2e1840b15a") false
    fnExactMissingMoves_holds (fun _ h => by cases h) (by kernel_rfl) (fun _ h => by cases h) fnExactMissingMoves_row_tie rfl ⟨rfl, rfl⟩ (by kernel_rfl) rfl
    (fun f fn hf hfn => by
      obtain rfl : f = 5 := Option.some.inj ((show Tryz.prog.funcNamed Rows.fnExactMissingMovesRow.func = some 5 by kernel_rfl).symm.trans hf) |>.symm
      obtain rfl : fn = Tryz.f5 := (Option.some.inj (Tryz.func5.symm.trans hfn)).symm
      exact ⟨by kernel_rfl, fun j t ht => by
        rw [Tryz.params5] at ht
        have hm : t ∈ [24, 27, 29, 9, 49] := by simpa using Array.mem_of_getElem? ht
        have hall : ([24, 27, 29, 9, 49].all fun u => !Tryz.prog.wantsStandIn u) = true := by kernel_rfl
        exact (show Tryz.prog.wantsStandIn t = false by simpa using List.all_eq_true.1 hall t hm)⟩)
    (by kernel_rfl)
#print axioms fnExactMissingMoves_card
end Go.Proofs.YtohopceknpgcnaaGreatDoor
