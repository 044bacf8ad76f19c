/-
  DERIVED. GIVEN WITH THE SEED: THE CARDS: each row of YtjjonmhpgkahoaaGreatDoorRows.lean that lists a variable, with what it lists TIED to the program's text (the seventh form; the later family's looks); each row that meets fmt, with fmt's text TOLD by the authors' own Lean function (tested against real Go, not proved from fmt's source: count such statements apart). THE CARD IS WHAT COUNTS. Prove the row's statement (the work); the ties are given (YtjjonmhpgkahoaaGreatDoorTie.lean); close each card by the builder's one call (the guide's Derived/Test/ToyasCard.lean, 'card_holds'). Laid BY PROGRAM, IN A SANDBOX (cutbox-door.mjs). By AI agents, Wed Nov 11 2026. No macro, syntax, notation, axiom, sorry.
-/
import Derived.Test.YtjjonmhpgkahoaaGreatDoorRows
import GoSem.ClaimSeven
namespace Go.Proofs.YtjjonmhpgkahoaaGreatDoor
namespace Rows

/-- THE TIED CARD OF 'laws.FnStarts'. -/
def fnStartsCard : Claim7 := { stood := { row := fnStartsRow, standIns := [], harness := (true, "a6cd975f7b85bf79fddec7b2904bc86e927927bace15312b90c3b080798d8224"), looks := false }, kinds := [], alts := [], laidByText := true, laidKinds := [.data, .pinned, .pinned], laidTests := true, laidLooks := .later }
def FnStartsCardSaid : Prop := Claim7.holds Tryz.pinned (.plain (OpenSpec.ofChange fnStartsSpec)) fnStartsCard

/-- THE TIED CARD OF 'laws.FnGameEnds'. -/
def fnGameEndsCard : Claim7 := { stood := { row := fnGameEndsRow, standIns := [], harness := (true, "a6cd975f7b85bf79fddec7b2904bc86e927927bace15312b90c3b080798d8224"), looks := false }, kinds := [], alts := [], laidByText := true, laidKinds := [.data, .pinned, .pinned], laidTests := true, laidLooks := .later }
def FnGameEndsCardSaid : Prop := Claim7.holds Tryz.pinned (.plain (OpenSpec.ofChange fnGameEndsSpec)) fnGameEndsCard

/-- THE TIED CARD OF 'laws.FnQuietTurns'. -/
def fnQuietTurnsCard : Claim7 := { stood := { row := fnQuietTurnsRow, standIns := [], harness := (true, "a6cd975f7b85bf79fddec7b2904bc86e927927bace15312b90c3b080798d8224"), looks := false }, kinds := [], alts := [], laidByText := true, laidKinds := [.data, .pinned, .pinned], laidTests := true, laidLooks := .later }
def FnQuietTurnsCardSaid : Prop := Claim7.holds Tryz.pinned (.plain (OpenSpec.ofChange fnQuietTurnsSpec)) fnQuietTurnsCard

/-- THE TIED CARD OF 'laws.FnPlayTurns'. -/
def fnPlayTurnsCard : Claim7 := { stood := { row := fnPlayTurnsRow, standIns := [], harness := (true, "a6cd975f7b85bf79fddec7b2904bc86e927927bace15312b90c3b080798d8224"), looks := false }, kinds := [], alts := [], laidByText := true, laidKinds := [.data, .pinned, .pinned], laidTests := true, laidLooks := .later }
def FnPlayTurnsCardSaid : Prop := Claim7.holds Tryz.pinned (.plain (OpenSpec.ofChange fnPlayTurnsSpec)) fnPlayTurnsCard

/-- THE TIED CARD OF 'laws.FnWithdrawals'. -/
def fnWithdrawalsCard : Claim7 := { stood := { row := fnWithdrawalsRow, standIns := [], harness := (true, "a6cd975f7b85bf79fddec7b2904bc86e927927bace15312b90c3b080798d8224"), looks := false }, kinds := [], alts := [], laidByText := true, laidKinds := [.data, .pinned, .pinned], laidTests := true, laidLooks := .later }
def FnWithdrawalsCardSaid : Prop := Claim7.holds Tryz.pinned (.plain (OpenSpec.ofChange fnWithdrawalsSpec)) fnWithdrawalsCard

/-- THE TIED CARD OF 'laws.FnChallenges'. -/
def fnChallengesCard : Claim7 := { stood := { row := fnChallengesRow, standIns := [], harness := (true, "a6cd975f7b85bf79fddec7b2904bc86e927927bace15312b90c3b080798d8224"), looks := false }, kinds := [], alts := [], laidByText := true, laidKinds := [.data, .data, .data, .data, .pinned, .pinned], laidTests := true, laidLooks := .later }
def FnChallengesCardSaid : Prop := Claim7.holds Tryz.pinned (.plain (OpenSpec.ofChange fnChallengesSpec)) fnChallengesCard

/-- THE SECOND FORM's CARD OF 'laws.FnStarts'. -/
def fnStartsUptoCard : Claim7 := { stood := { row := fnStartsUptoRow, standIns := [], harness := (true, "a6cd975f7b85bf79fddec7b2904bc86e927927bace15312b90c3b080798d8224"), looks := false }, kinds := [], alts := [], laidByText := true, laidKinds := [.data, .pinned, .pinned], laidTests := true, laidLooks := .later }
def FnStartsUptoCardSaid : Prop := Claim7.holds Tryz.pinned (.plain (OpenSpec.upto fnStartsSpec)) fnStartsUptoCard

/-- THE SECOND FORM's CARD OF 'laws.FnGameEnds'. -/
def fnGameEndsUptoCard : Claim7 := { stood := { row := fnGameEndsUptoRow, standIns := [], harness := (true, "a6cd975f7b85bf79fddec7b2904bc86e927927bace15312b90c3b080798d8224"), looks := false }, kinds := [], alts := [], laidByText := true, laidKinds := [.data, .pinned, .pinned], laidTests := true, laidLooks := .later }
def FnGameEndsUptoCardSaid : Prop := Claim7.holds Tryz.pinned (.plain (OpenSpec.upto fnGameEndsSpec)) fnGameEndsUptoCard

/-- THE SECOND FORM's CARD OF 'laws.FnQuietTurns'. -/
def fnQuietTurnsUptoCard : Claim7 := { stood := { row := fnQuietTurnsUptoRow, standIns := [], harness := (true, "a6cd975f7b85bf79fddec7b2904bc86e927927bace15312b90c3b080798d8224"), looks := false }, kinds := [], alts := [], laidByText := true, laidKinds := [.data, .pinned, .pinned], laidTests := true, laidLooks := .later }
def FnQuietTurnsUptoCardSaid : Prop := Claim7.holds Tryz.pinned (.plain (OpenSpec.upto fnQuietTurnsSpec)) fnQuietTurnsUptoCard

/-- THE SECOND FORM's CARD OF 'laws.FnPlayTurns'. -/
def fnPlayTurnsUptoCard : Claim7 := { stood := { row := fnPlayTurnsUptoRow, standIns := [], harness := (true, "a6cd975f7b85bf79fddec7b2904bc86e927927bace15312b90c3b080798d8224"), looks := false }, kinds := [], alts := [], laidByText := true, laidKinds := [.data, .pinned, .pinned], laidTests := true, laidLooks := .later }
def FnPlayTurnsUptoCardSaid : Prop := Claim7.holds Tryz.pinned (.plain (OpenSpec.upto fnPlayTurnsSpec)) fnPlayTurnsUptoCard

/-- THE SECOND FORM's CARD OF 'laws.FnWithdrawals'. -/
def fnWithdrawalsUptoCard : Claim7 := { stood := { row := fnWithdrawalsUptoRow, standIns := [], harness := (true, "a6cd975f7b85bf79fddec7b2904bc86e927927bace15312b90c3b080798d8224"), looks := false }, kinds := [], alts := [], laidByText := true, laidKinds := [.data, .pinned, .pinned], laidTests := true, laidLooks := .later }
def FnWithdrawalsUptoCardSaid : Prop := Claim7.holds Tryz.pinned (.plain (OpenSpec.upto fnWithdrawalsSpec)) fnWithdrawalsUptoCard

/-- THE SECOND FORM's CARD OF 'laws.FnChallenges'. -/
def fnChallengesUptoCard : Claim7 := { stood := { row := fnChallengesUptoRow, standIns := [], harness := (true, "a6cd975f7b85bf79fddec7b2904bc86e927927bace15312b90c3b080798d8224"), looks := false }, kinds := [], alts := [], laidByText := true, laidKinds := [.data, .data, .data, .data, .pinned, .pinned], laidTests := true, laidLooks := .later }
def FnChallengesUptoCardSaid : Prop := Claim7.holds Tryz.pinned (.plain (OpenSpec.upto fnChallengesSpec)) fnChallengesUptoCard
end Rows
end Go.Proofs.YtjjonmhpgkahoaaGreatDoor
