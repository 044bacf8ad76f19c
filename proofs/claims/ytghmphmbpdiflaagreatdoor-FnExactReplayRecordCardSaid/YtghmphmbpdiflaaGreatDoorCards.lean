/-
  DERIVED. GIVEN WITH THE SEED: THE CARDS: each row of YtghmphmbpdiflaaGreatDoorRows.lean that lists a variable, with what it lists TIED to the program's text (the seventh form; the later family's looks); each row that meets fmt, with fmt's text TOLD by the authors' own Lean function (tested against real Go, not proved from fmt's source: count such statements apart). THE CARD IS WHAT COUNTS. Prove the row's statement (the work); the ties are given (YtghmphmbpdiflaaGreatDoorTie.lean); close each card by the builder's one call (the guide's Derived/Test/ToyasCard.lean, 'card_holds'). Laid BY PROGRAM, IN A SANDBOX (cutbox-door.mjs). By AI agents, Wed Nov 11 2026. No macro, syntax, notation, axiom, sorry.
-/
import Derived.Test.YtghmphmbpdiflaaGreatDoorRows
import GoSem.ClaimSeven
namespace Go.Proofs.YtghmphmbpdiflaaGreatDoor
namespace Rows

/-- THE TIED CARD OF 'laws.FnStarts'. -/
def fnStartsCard : Claim7 := { stood := { row := fnStartsRow, standIns := [], harness := (true, "6379ef9485acdfe066a7e7806cf7d3b9ccceba2c3b737241f7c692e42e3ec4cb"), looks := false }, kinds := [], alts := [], laidByText := true, laidKinds := [.data, .pinned, .pinned], laidTests := true, laidLooks := .later }
def FnStartsCardSaid : Prop := Claim7.holds Tryz.pinned (.plain (OpenSpec.ofChange fnStartsSpec)) fnStartsCard

/-- THE TIED CARD OF 'laws.FnGameEnds'. -/
def fnGameEndsCard : Claim7 := { stood := { row := fnGameEndsRow, standIns := [], harness := (true, "6379ef9485acdfe066a7e7806cf7d3b9ccceba2c3b737241f7c692e42e3ec4cb"), looks := false }, kinds := [], alts := [], laidByText := true, laidKinds := [.data, .pinned, .pinned], laidTests := true, laidLooks := .later }
def FnGameEndsCardSaid : Prop := Claim7.holds Tryz.pinned (.plain (OpenSpec.ofChange fnGameEndsSpec)) fnGameEndsCard

/-- THE TIED CARD OF 'laws.FnQuietTurns'. -/
def fnQuietTurnsCard : Claim7 := { stood := { row := fnQuietTurnsRow, standIns := [], harness := (true, "6379ef9485acdfe066a7e7806cf7d3b9ccceba2c3b737241f7c692e42e3ec4cb"), looks := false }, kinds := [], alts := [], laidByText := true, laidKinds := [.data, .pinned, .pinned], laidTests := true, laidLooks := .later }
def FnQuietTurnsCardSaid : Prop := Claim7.holds Tryz.pinned (.plain (OpenSpec.ofChange fnQuietTurnsSpec)) fnQuietTurnsCard

/-- THE TIED CARD OF 'laws.FnExactReplayRecord'. -/
def fnExactReplayRecordCard : Claim7 := { stood := { row := fnExactReplayRecordRow, standIns := [], harness := (true, "6379ef9485acdfe066a7e7806cf7d3b9ccceba2c3b737241f7c692e42e3ec4cb"), looks := false }, kinds := [], alts := [], laidByText := true, laidKinds := [.data, .data, .data, .data, .pinned, .pinned], laidTests := true, laidLooks := .later }
def FnExactReplayRecordCardSaid : Prop := Claim7.holds Tryz.pinned (.plain (OpenSpec.ofChange fnExactReplayRecordSpec)) fnExactReplayRecordCard

/-- THE SECOND FORM's CARD OF 'laws.FnStarts'. -/
def fnStartsUptoCard : Claim7 := { stood := { row := fnStartsUptoRow, standIns := [], harness := (true, "6379ef9485acdfe066a7e7806cf7d3b9ccceba2c3b737241f7c692e42e3ec4cb"), looks := false }, kinds := [], alts := [], laidByText := true, laidKinds := [.data, .pinned, .pinned], laidTests := true, laidLooks := .later }
def FnStartsUptoCardSaid : Prop := Claim7.holds Tryz.pinned (.plain (OpenSpec.upto fnStartsSpec)) fnStartsUptoCard

/-- THE SECOND FORM's CARD OF 'laws.FnGameEnds'. -/
def fnGameEndsUptoCard : Claim7 := { stood := { row := fnGameEndsUptoRow, standIns := [], harness := (true, "6379ef9485acdfe066a7e7806cf7d3b9ccceba2c3b737241f7c692e42e3ec4cb"), looks := false }, kinds := [], alts := [], laidByText := true, laidKinds := [.data, .pinned, .pinned], laidTests := true, laidLooks := .later }
def FnGameEndsUptoCardSaid : Prop := Claim7.holds Tryz.pinned (.plain (OpenSpec.upto fnGameEndsSpec)) fnGameEndsUptoCard

/-- THE SECOND FORM's CARD OF 'laws.FnQuietTurns'. -/
def fnQuietTurnsUptoCard : Claim7 := { stood := { row := fnQuietTurnsUptoRow, standIns := [], harness := (true, "6379ef9485acdfe066a7e7806cf7d3b9ccceba2c3b737241f7c692e42e3ec4cb"), looks := false }, kinds := [], alts := [], laidByText := true, laidKinds := [.data, .pinned, .pinned], laidTests := true, laidLooks := .later }
def FnQuietTurnsUptoCardSaid : Prop := Claim7.holds Tryz.pinned (.plain (OpenSpec.upto fnQuietTurnsSpec)) fnQuietTurnsUptoCard

/-- THE SECOND FORM's CARD OF 'laws.FnExactReplayRecord'. -/
def fnExactReplayRecordUptoCard : Claim7 := { stood := { row := fnExactReplayRecordUptoRow, standIns := [], harness := (true, "6379ef9485acdfe066a7e7806cf7d3b9ccceba2c3b737241f7c692e42e3ec4cb"), looks := false }, kinds := [], alts := [], laidByText := true, laidKinds := [.data, .data, .data, .data, .pinned, .pinned], laidTests := true, laidLooks := .later }
def FnExactReplayRecordUptoCardSaid : Prop := Claim7.holds Tryz.pinned (.plain (OpenSpec.upto fnExactReplayRecordSpec)) fnExactReplayRecordUptoCard
end Rows
end Go.Proofs.YtghmphmbpdiflaaGreatDoor
