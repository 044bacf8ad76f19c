/-
  DERIVED. GIVEN WITH THE SEED: THE CARDS: each row of YtmomiifkdfmahaaGreatDoorRows.lean that lists a variable, with what it lists TIED to the program's text (the seventh form; the later family's looks); each row that meets fmt, with fmt's text TOLD by the authors' own Lean function (tested against real Go, not proved from fmt's source: count such statements apart). THE CARD IS WHAT COUNTS. Prove the row's statement (the work); the ties are given (YtmomiifkdfmahaaGreatDoorTie.lean); close each card by the builder's one call (the guide's Derived/Test/ToyasCard.lean, 'card_holds'). Laid BY PROGRAM, IN A SANDBOX (cutbox-door.mjs). By AI agents, Wed Nov 11 2026. No macro, syntax, notation, axiom, sorry.
-/
import Derived.Test.YtmomiifkdfmahaaGreatDoorRows
import GoSem.ClaimSeven
namespace Go.Proofs.YtmomiifkdfmahaaGreatDoor
namespace Rows

/-- THE TIED CARD OF 'laws.FnExactCheckRecord'. -/
def fnExactCheckRecordCard : Claim7 := { stood := { row := fnExactCheckRecordRow, standIns := [], harness := (true, "46e08efd10ef2b878f361416ea85352538c63fbec3d7fe24c3a844bc07ee0e05"), looks := false }, kinds := [], alts := [], laidByText := true, laidKinds := [.data, .data, .data, .data, .pinned, .pinned], laidTests := true, laidLooks := .later }
def FnExactCheckRecordCardSaid : Prop := Claim7.holds Tryz.pinned (.plain (OpenSpec.ofChange fnExactCheckRecordSpec)) fnExactCheckRecordCard

/-- THE TIED CARD OF 'laws.FnExactBestTurn'. -/
def fnExactBestTurnCard : Claim7 := { stood := { row := fnExactBestTurnRow, standIns := [], harness := (true, "46e08efd10ef2b878f361416ea85352538c63fbec3d7fe24c3a844bc07ee0e05"), looks := false }, kinds := [], alts := [], laidByText := true, laidKinds := [.data, .data, .data, .data, .pinned, .pinned], laidTests := true, laidLooks := .later }
def FnExactBestTurnCardSaid : Prop := Claim7.holds Tryz.pinned (.plain (OpenSpec.ofChange fnExactBestTurnSpec)) fnExactBestTurnCard

/-- THE SECOND FORM's CARD OF 'laws.FnExactCheckRecord'. -/
def fnExactCheckRecordUptoCard : Claim7 := { stood := { row := fnExactCheckRecordUptoRow, standIns := [], harness := (true, "46e08efd10ef2b878f361416ea85352538c63fbec3d7fe24c3a844bc07ee0e05"), looks := false }, kinds := [], alts := [], laidByText := true, laidKinds := [.data, .data, .data, .data, .pinned, .pinned], laidTests := true, laidLooks := .later }
def FnExactCheckRecordUptoCardSaid : Prop := Claim7.holds Tryz.pinned (.plain (OpenSpec.upto fnExactCheckRecordSpec)) fnExactCheckRecordUptoCard

/-- THE SECOND FORM's CARD OF 'laws.FnExactBestTurn'. -/
def fnExactBestTurnUptoCard : Claim7 := { stood := { row := fnExactBestTurnUptoRow, standIns := [], harness := (true, "46e08efd10ef2b878f361416ea85352538c63fbec3d7fe24c3a844bc07ee0e05"), looks := false }, kinds := [], alts := [], laidByText := true, laidKinds := [.data, .data, .data, .data, .pinned, .pinned], laidTests := true, laidLooks := .later }
def FnExactBestTurnUptoCardSaid : Prop := Claim7.holds Tryz.pinned (.plain (OpenSpec.upto fnExactBestTurnSpec)) fnExactBestTurnUptoCard
end Rows
end Go.Proofs.YtmomiifkdfmahaaGreatDoor
