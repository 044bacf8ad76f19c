/-
  FnExactCheckMoves: the tied card: whatever the arguments, the law returns true and they read as they did; what the row lists is tied to the program's text.
  Conditions: none of ours.
-/
import Derived.Test.YtdkckikobefekaaGreatDoorCards
import Derived.Test.YtdkckikobefekaaGreatDoorTie
import Derived.Test.YtdkckikobefekaaGreatDoorM30
import Derived.SevenTiedAt
namespace Go.Proofs.YtdkckikobefekaaGreatDoor
open Go
set_option maxRecDepth 100000

theorem ccF : Tryz.prog.funcNamed Rows.fnExactCheckMovesRow.func = some 3 := by kernel_rfl
theorem fnExactCheckMoves_card : Rows.FnExactCheckMovesCardSaid :=
  Claim7.holds_tied_plain_at .later [] [.data, .pinned, .pinned] true (true, "2bcf15aa4b833966d6dbfbe4255cf786285ec82cf22b0dc7b3bb73d5c3e18094") false
    fnExactCheckMoves_holds (fun _ h => by cases h) (by as_aux_lemma => kernel_rfl) (fun _ h => by cases h) fnExactCheckMoves_row_tie rfl ⟨rfl, rfl⟩ (by as_aux_lemma => kernel_rfl) rfl
    (fun f fn hf hfn => by
      obtain rfl : f = 3 := Option.some.inj (ccF.symm.trans hf) |>.symm
      obtain rfl : fn = Tryz.f3 := (Option.some.inj (Tryz.func3.symm.trans hfn)).symm
      exact ⟨by as_aux_lemma => kernel_rfl, fun j t ht => by
        rw [Tryz.params3] at ht
        have hm : t ∈ [24, 27, 29, 9, 30] := by simpa using Array.mem_of_getElem? ht
        have hall : ([24, 27, 29, 9, 30].all fun u => !Tryz.prog.wantsStandIn u) = true := by as_aux_lemma => kernel_rfl
        exact (show Tryz.prog.wantsStandIn t = false by simpa using List.all_eq_true.1 hall t hm)⟩)
    (by as_aux_lemma => kernel_rfl)
#print axioms fnExactCheckMoves_card
end Go.Proofs.YtdkckikobefekaaGreatDoor
