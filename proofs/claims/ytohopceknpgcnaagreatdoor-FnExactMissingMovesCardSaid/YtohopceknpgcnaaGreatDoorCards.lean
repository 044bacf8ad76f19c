/-
  DERIVED. GIVEN WITH THE SEED: THE CARDS: each row of YtohopceknpgcnaaGreatDoorRows.lean that lists a variable, with what it lists TIED to the program's text (the seventh form; the later family's looks); each row that meets fmt, with fmt's text TOLD by the authors' own Lean function (tested against real Go, not proved from fmt's source: count such statements apart). THE CARD IS WHAT COUNTS. Prove the row's statement (the work); the ties are given (YtohopceknpgcnaaGreatDoorTie.lean); close each card by the builder's one call (the guide's Derived/Test/ToyasCard.lean, 'card_holds'). Laid BY PROGRAM, IN A SANDBOX (cutbox-door.mjs). By AI agents, Wed Nov 11 2026. No macro, syntax, notation, axiom, sorry.
-/
import Derived.Test.YtohopceknpgcnaaGreatDoorRows
import GoSem.ClaimSeven
namespace Go.Proofs.YtohopceknpgcnaaGreatDoor
namespace Rows

/-- THE TIED CARD OF 'laws.FnExactTryMoves'. -/
def fnExactTryMovesCard : Claim7 := { stood := { row := fnExactTryMovesRow, standIns := [], harness := (true, "e0f2e3834fe14f63ca4875db26c73574471839c88505f56234222e2e1840b15a"), looks := false }, kinds := [], alts := [], laidByText := true, laidKinds := [.data, .pinned, .pinned], laidTests := true, laidLooks := .later }
def FnExactTryMovesCardSaid : Prop := Claim7.holds Tryz.pinned (.plain (OpenSpec.ofChange fnExactTryMovesSpec)) fnExactTryMovesCard

/-- THE TIED CARD OF 'laws.FnExactCheckMoves'. -/
def fnExactCheckMovesCard : Claim7 := { stood := { row := fnExactCheckMovesRow, standIns := [], harness := (true, "e0f2e3834fe14f63ca4875db26c73574471839c88505f56234222e2e1840b15a"), looks := false }, kinds := [], alts := [], laidByText := true, laidKinds := [.data, .pinned, .pinned], laidTests := true, laidLooks := .later }
def FnExactCheckMovesCardSaid : Prop := Claim7.holds Tryz.pinned (.plain (OpenSpec.ofChange fnExactCheckMovesSpec)) fnExactCheckMovesCard

/-- THE TIED CARD OF 'laws.FnExactMissingMoves'. -/
def fnExactMissingMovesCard : Claim7 := { stood := { row := fnExactMissingMovesRow, standIns := [], harness := (true, "e0f2e3834fe14f63ca4875db26c73574471839c88505f56234222e2e1840b15a"), looks := false }, kinds := [], alts := [], laidByText := true, laidKinds := [.data, .pinned, .pinned], laidTests := true, laidLooks := .later }
def FnExactMissingMovesCardSaid : Prop := Claim7.holds Tryz.pinned (.plain (OpenSpec.ofChange fnExactMissingMovesSpec)) fnExactMissingMovesCard

/-- THE SECOND FORM's CARD OF 'laws.FnExactTryMoves'. -/
def fnExactTryMovesUptoCard : Claim7 := { stood := { row := fnExactTryMovesUptoRow, standIns := [], harness := (true, "e0f2e3834fe14f63ca4875db26c73574471839c88505f56234222e2e1840b15a"), looks := false }, kinds := [], alts := [], laidByText := true, laidKinds := [.data, .pinned, .pinned], laidTests := true, laidLooks := .later }
def FnExactTryMovesUptoCardSaid : Prop := Claim7.holds Tryz.pinned (.plain (OpenSpec.upto fnExactTryMovesSpec)) fnExactTryMovesUptoCard

/-- THE SECOND FORM's CARD OF 'laws.FnExactCheckMoves'. -/
def fnExactCheckMovesUptoCard : Claim7 := { stood := { row := fnExactCheckMovesUptoRow, standIns := [], harness := (true, "e0f2e3834fe14f63ca4875db26c73574471839c88505f56234222e2e1840b15a"), looks := false }, kinds := [], alts := [], laidByText := true, laidKinds := [.data, .pinned, .pinned], laidTests := true, laidLooks := .later }
def FnExactCheckMovesUptoCardSaid : Prop := Claim7.holds Tryz.pinned (.plain (OpenSpec.upto fnExactCheckMovesSpec)) fnExactCheckMovesUptoCard

/-- THE SECOND FORM's CARD OF 'laws.FnExactMissingMoves'. -/
def fnExactMissingMovesUptoCard : Claim7 := { stood := { row := fnExactMissingMovesUptoRow, standIns := [], harness := (true, "e0f2e3834fe14f63ca4875db26c73574471839c88505f56234222e2e1840b15a"), looks := false }, kinds := [], alts := [], laidByText := true, laidKinds := [.data, .pinned, .pinned], laidTests := true, laidLooks := .later }
def FnExactMissingMovesUptoCardSaid : Prop := Claim7.holds Tryz.pinned (.plain (OpenSpec.upto fnExactMissingMovesSpec)) fnExactMissingMovesUptoCard
end Rows
end Go.Proofs.YtohopceknpgcnaaGreatDoor
