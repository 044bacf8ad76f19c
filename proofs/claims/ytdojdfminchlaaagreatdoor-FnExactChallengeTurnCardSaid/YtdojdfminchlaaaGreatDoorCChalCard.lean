/-
  FnExactChallengeTurn: the tied card: whatever the arguments, the law returns true and they read as they did; what the row lists is tied to the program's text.
  Conditions: none of ours.
-/
import Derived.Test.YtdojdfminchlaaaGreatDoorCards
import Derived.Test.YtdojdfminchlaaaGreatDoorTie
import Derived.Test.YtdojdfminchlaaaGreatDoorC36
import Derived.SevenTiedAt
namespace Go.Proofs.YtdojdfminchlaaaGreatDoor
open Go
set_option maxRecDepth 100000

theorem ccF : Tryz.prog.funcNamed Rows.fnExactChallengeTurnRow.func = some 4 := by kernel_rfl
theorem fnExactChallengeTurn_card : Rows.FnExactChallengeTurnCardSaid :=
  Claim7.holds_tied_plain_at .later [] [.data, .pinned, .pinned] true (true, "fad680c4082a6dd11d75d876eadd179cd7b7e6cefe4652e066911a75f4bcc3b7") false
    fnExactChallengeTurn_holds (fun _ h => by cases h) (by as_aux_lemma => kernel_rfl) (fun _ h => by cases h) fnExactChallengeTurn_row_tie rfl ⟨rfl, rfl⟩ (by as_aux_lemma => kernel_rfl) rfl
    (fun f fn hf hfn => by
      obtain rfl : f = 4 := Option.some.inj (ccF.symm.trans hf) |>.symm
      obtain rfl : fn = Tryz.f4 := (Option.some.inj (Tryz.func4.symm.trans hfn)).symm
      exact ⟨by as_aux_lemma => kernel_rfl, fun j t ht => by
        rw [Tryz.params4] at ht
        have hm : t ∈ [37, 2] := by simpa using Array.mem_of_getElem? ht
        have hall : ([37, 2].all fun u => !Tryz.prog.wantsStandIn u) = true := by as_aux_lemma => kernel_rfl
        exact (show Tryz.prog.wantsStandIn t = false by simpa using List.all_eq_true.1 hall t hm)⟩)
    (by as_aux_lemma => kernel_rfl)
#print axioms fnExactChallengeTurn_card
end Go.Proofs.YtdojdfminchlaaaGreatDoor
