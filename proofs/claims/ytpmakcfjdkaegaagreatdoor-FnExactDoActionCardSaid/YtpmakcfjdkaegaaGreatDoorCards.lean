/-
  DERIVED. GIVEN WITH THE SEED: THE CARDS: each row of YtpmakcfjdkaegaaGreatDoorRows.lean that lists a variable, with what it lists TIED to the program's text (the seventh form; the later family's looks); each row that meets fmt, with fmt's text TOLD by the authors' own Lean function (tested against real Go, not proved from fmt's source: count such statements apart). THE CARD IS WHAT COUNTS. Prove the row's statement (the work); the ties are given (YtpmakcfjdkaegaaGreatDoorTie.lean); close each card by the builder's one call (the guide's Derived/Test/ToyasCard.lean, 'card_holds'). Laid BY PROGRAM, IN A SANDBOX (cutbox-door.mjs). By AI agents, Wed Nov 11 2026. No macro, syntax, notation, axiom, sorry.
-/
import Derived.Test.YtpmakcfjdkaegaaGreatDoorRows
import GoSem.ClaimSeven
namespace Go.Proofs.YtpmakcfjdkaegaaGreatDoor
namespace Rows

/-- THE TIED CARD OF 'laws.FnExactDoAction'. -/
def fnExactDoActionCard : Claim7 := { stood := { row := fnExactDoActionRow, standIns := [], harness := (true, "be6e532bea60290134fd972aec0dde7409413be70cf918b5811ecc134787c3cf"), looks := false }, kinds := [], alts := [], laidByText := true, laidKinds := [.data, .data, .data, .data, .pinned, .pinned], laidTests := true, laidLooks := .later }
def FnExactDoActionCardSaid : Prop := Claim7.holds Tryz.pinned (.plain (OpenSpec.ofChange fnExactDoActionSpec)) fnExactDoActionCard

/-- THE TIED CARD OF 'laws.FnExactCheckRecord'. -/
def fnExactCheckRecordCard : Claim7 := { stood := { row := fnExactCheckRecordRow, standIns := [], harness := (true, "be6e532bea60290134fd972aec0dde7409413be70cf918b5811ecc134787c3cf"), looks := false }, kinds := [], alts := [], laidByText := true, laidKinds := [.data, .data, .data, .data, .pinned, .pinned], laidTests := true, laidLooks := .later }
def FnExactCheckRecordCardSaid : Prop := Claim7.holds Tryz.pinned (.plain (OpenSpec.ofChange fnExactCheckRecordSpec)) fnExactCheckRecordCard

/-- THE TIED CARD OF 'laws.FnExactBestTurn'. -/
def fnExactBestTurnCard : Claim7 := { stood := { row := fnExactBestTurnRow, standIns := [], harness := (true, "be6e532bea60290134fd972aec0dde7409413be70cf918b5811ecc134787c3cf"), looks := false }, kinds := [], alts := [], laidByText := true, laidKinds := [.data, .data, .data, .data, .pinned, .pinned], laidTests := true, laidLooks := .later }
def FnExactBestTurnCardSaid : Prop := Claim7.holds Tryz.pinned (.plain (OpenSpec.ofChange fnExactBestTurnSpec)) fnExactBestTurnCard

/-- THE TIED CARD OF 'laws.FnExactScoresAfter'. -/
def fnExactScoresAfterCard : Claim7 := { stood := { row := fnExactScoresAfterRow, standIns := [], harness := (true, "be6e532bea60290134fd972aec0dde7409413be70cf918b5811ecc134787c3cf"), looks := false }, kinds := [], alts := [], laidByText := true, laidKinds := [.data, .data, .data, .data, .pinned, .pinned], laidTests := true, laidLooks := .later }
def FnExactScoresAfterCardSaid : Prop := Claim7.holds Tryz.pinned (.plain (OpenSpec.ofChange fnExactScoresAfterSpec)) fnExactScoresAfterCard

/-- THE TIED CARD OF 'laws.FnExactReplayRecord'. -/
def fnExactReplayRecordCard : Claim7 := { stood := { row := fnExactReplayRecordRow, standIns := [], harness := (true, "be6e532bea60290134fd972aec0dde7409413be70cf918b5811ecc134787c3cf"), looks := false }, kinds := [], alts := [], laidByText := true, laidKinds := [.data, .data, .data, .data, .pinned, .pinned], laidTests := true, laidLooks := .later }
def FnExactReplayRecordCardSaid : Prop := Claim7.holds Tryz.pinned (.plain (OpenSpec.ofChange fnExactReplayRecordSpec)) fnExactReplayRecordCard

/-- THE SECOND FORM's CARD OF 'laws.FnExactDoAction'. -/
def fnExactDoActionUptoCard : Claim7 := { stood := { row := fnExactDoActionUptoRow, standIns := [], harness := (true, "be6e532bea60290134fd972aec0dde7409413be70cf918b5811ecc134787c3cf"), looks := false }, kinds := [], alts := [], laidByText := true, laidKinds := [.data, .data, .data, .data, .pinned, .pinned], laidTests := true, laidLooks := .later }
def FnExactDoActionUptoCardSaid : Prop := Claim7.holds Tryz.pinned (.plain (OpenSpec.upto fnExactDoActionSpec)) fnExactDoActionUptoCard

/-- THE SECOND FORM's CARD OF 'laws.FnExactCheckRecord'. -/
def fnExactCheckRecordUptoCard : Claim7 := { stood := { row := fnExactCheckRecordUptoRow, standIns := [], harness := (true, "be6e532bea60290134fd972aec0dde7409413be70cf918b5811ecc134787c3cf"), looks := false }, kinds := [], alts := [], laidByText := true, laidKinds := [.data, .data, .data, .data, .pinned, .pinned], laidTests := true, laidLooks := .later }
def FnExactCheckRecordUptoCardSaid : Prop := Claim7.holds Tryz.pinned (.plain (OpenSpec.upto fnExactCheckRecordSpec)) fnExactCheckRecordUptoCard

/-- THE SECOND FORM's CARD OF 'laws.FnExactBestTurn'. -/
def fnExactBestTurnUptoCard : Claim7 := { stood := { row := fnExactBestTurnUptoRow, standIns := [], harness := (true, "be6e532bea60290134fd972aec0dde7409413be70cf918b5811ecc134787c3cf"), looks := false }, kinds := [], alts := [], laidByText := true, laidKinds := [.data, .data, .data, .data, .pinned, .pinned], laidTests := true, laidLooks := .later }
def FnExactBestTurnUptoCardSaid : Prop := Claim7.holds Tryz.pinned (.plain (OpenSpec.upto fnExactBestTurnSpec)) fnExactBestTurnUptoCard

/-- THE SECOND FORM's CARD OF 'laws.FnExactScoresAfter'. -/
def fnExactScoresAfterUptoCard : Claim7 := { stood := { row := fnExactScoresAfterUptoRow, standIns := [], harness := (true, "be6e532bea60290134fd972aec0dde7409413be70cf918b5811ecc134787c3cf"), looks := false }, kinds := [], alts := [], laidByText := true, laidKinds := [.data, .data, .data, .data, .pinned, .pinned], laidTests := true, laidLooks := .later }
def FnExactScoresAfterUptoCardSaid : Prop := Claim7.holds Tryz.pinned (.plain (OpenSpec.upto fnExactScoresAfterSpec)) fnExactScoresAfterUptoCard

/-- THE SECOND FORM's CARD OF 'laws.FnExactReplayRecord'. -/
def fnExactReplayRecordUptoCard : Claim7 := { stood := { row := fnExactReplayRecordUptoRow, standIns := [], harness := (true, "be6e532bea60290134fd972aec0dde7409413be70cf918b5811ecc134787c3cf"), looks := false }, kinds := [], alts := [], laidByText := true, laidKinds := [.data, .data, .data, .data, .pinned, .pinned], laidTests := true, laidLooks := .later }
def FnExactReplayRecordUptoCardSaid : Prop := Claim7.holds Tryz.pinned (.plain (OpenSpec.upto fnExactReplayRecordSpec)) fnExactReplayRecordUptoCard
end Rows
end Go.Proofs.YtpmakcfjdkaegaaGreatDoor
