/-
  DERIVED. GIVEN WITH THE SEED: THE CARDS: each row of YtdojdfminchlaaaGreatDoorRows.lean that lists a variable, with what it lists TIED to the program's text (the seventh form; the later family's looks); each row that meets fmt, with fmt's text TOLD by the authors' own Lean function (tested against real Go, not proved from fmt's source: count such statements apart). THE CARD IS WHAT COUNTS. Prove the row's statement (the work); the ties are given (YtdojdfminchlaaaGreatDoorTie.lean); close each card by the builder's one call (the guide's Derived/Test/ToyasCard.lean, 'card_holds'). Laid BY PROGRAM, IN A SANDBOX (cutbox-door.mjs). By AI agents, Wed Nov 11 2026. No macro, syntax, notation, axiom, sorry.
-/
import Derived.Test.YtdojdfminchlaaaGreatDoorRows
import GoSem.ClaimSeven
namespace Go.Proofs.YtdojdfminchlaaaGreatDoor
namespace Rows

/-- THE TIED CARD OF 'laws.FnExactPlayTurn'. -/
def fnExactPlayTurnCard : Claim7 := { stood := { row := fnExactPlayTurnRow, standIns := [], harness := (true, "fad680c4082a6dd11d75d876eadd179cd7b7e6cefe4652e066911a75f4bcc3b7"), looks := false }, kinds := [], alts := [], laidByText := true, laidKinds := [.data, .pinned, .pinned], laidTests := true, laidLooks := .later }
def FnExactPlayTurnCardSaid : Prop := Claim7.holds Tryz.pinned (.plain (OpenSpec.ofChange fnExactPlayTurnSpec)) fnExactPlayTurnCard

/-- THE TIED CARD OF 'laws.FnExactChallengeTurn'. -/
def fnExactChallengeTurnCard : Claim7 := { stood := { row := fnExactChallengeTurnRow, standIns := [], harness := (true, "fad680c4082a6dd11d75d876eadd179cd7b7e6cefe4652e066911a75f4bcc3b7"), looks := false }, kinds := [], alts := [], laidByText := true, laidKinds := [.data, .pinned, .pinned], laidTests := true, laidLooks := .later }
def FnExactChallengeTurnCardSaid : Prop := Claim7.holds Tryz.pinned (.plain (OpenSpec.ofChange fnExactChallengeTurnSpec)) fnExactChallengeTurnCard

/-- THE SECOND FORM's CARD OF 'laws.FnExactPlayTurn'. -/
def fnExactPlayTurnUptoCard : Claim7 := { stood := { row := fnExactPlayTurnUptoRow, standIns := [], harness := (true, "fad680c4082a6dd11d75d876eadd179cd7b7e6cefe4652e066911a75f4bcc3b7"), looks := false }, kinds := [], alts := [], laidByText := true, laidKinds := [.data, .pinned, .pinned], laidTests := true, laidLooks := .later }
def FnExactPlayTurnUptoCardSaid : Prop := Claim7.holds Tryz.pinned (.plain (OpenSpec.upto fnExactPlayTurnSpec)) fnExactPlayTurnUptoCard

/-- THE SECOND FORM's CARD OF 'laws.FnExactChallengeTurn'. -/
def fnExactChallengeTurnUptoCard : Claim7 := { stood := { row := fnExactChallengeTurnUptoRow, standIns := [], harness := (true, "fad680c4082a6dd11d75d876eadd179cd7b7e6cefe4652e066911a75f4bcc3b7"), looks := false }, kinds := [], alts := [], laidByText := true, laidKinds := [.data, .pinned, .pinned], laidTests := true, laidLooks := .later }
def FnExactChallengeTurnUptoCardSaid : Prop := Claim7.holds Tryz.pinned (.plain (OpenSpec.upto fnExactChallengeTurnSpec)) fnExactChallengeTurnUptoCard
end Rows
end Go.Proofs.YtdojdfminchlaaaGreatDoor
