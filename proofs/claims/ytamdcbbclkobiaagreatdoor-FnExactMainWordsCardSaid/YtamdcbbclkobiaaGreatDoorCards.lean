/-
  DERIVED. GIVEN WITH THE SEED: THE CARDS: each row of YtamdcbbclkobiaaGreatDoorRows.lean that lists a variable, with what it lists TIED to the program's text (the seventh form; the later family's looks); each row that meets fmt, with fmt's text TOLD by the authors' own Lean function (tested against real Go, not proved from fmt's source: count such statements apart). THE CARD IS WHAT COUNTS. Prove the row's statement (the work); the ties are given (YtamdcbbclkobiaaGreatDoorTie.lean); close each card by the builder's one call (the guide's Derived/Test/ToyasCard.lean, 'card_holds'). Laid BY PROGRAM, IN A SANDBOX (cutbox-door.mjs). By AI agents, Wed Nov 11 2026. No macro, syntax, notation, axiom, sorry.
-/
import Derived.Test.YtamdcbbclkobiaaGreatDoorRows
import GoSem.ClaimSeven
namespace Go.Proofs.YtamdcbbclkobiaaGreatDoor
namespace Rows

/-- THE TIED CARD OF 'laws.FnExactMainWords'. -/
def fnExactMainWordsCard : Claim7 := { stood := { row := fnExactMainWordsRow, standIns := [], harness := (true, "05023769497567ea176a118f585c68ae2e8af8924e54f7dacb980cf707dbcfed"), looks := false }, kinds := [], alts := [], laidByText := true, laidKinds := [.data, .pinned, .pinned], laidTests := true, laidLooks := .later }
def FnExactMainWordsCardSaid : Prop := Claim7.holds Tryz.pinned (.plain (OpenSpec.ofChange fnExactMainWordsSpec)) fnExactMainWordsCard

/-- THE SECOND FORM's CARD OF 'laws.FnExactMainWords'. -/
def fnExactMainWordsUptoCard : Claim7 := { stood := { row := fnExactMainWordsUptoRow, standIns := [], harness := (true, "05023769497567ea176a118f585c68ae2e8af8924e54f7dacb980cf707dbcfed"), looks := false }, kinds := [], alts := [], laidByText := true, laidKinds := [.data, .pinned, .pinned], laidTests := true, laidLooks := .later }
def FnExactMainWordsUptoCardSaid : Prop := Claim7.holds Tryz.pinned (.plain (OpenSpec.upto fnExactMainWordsSpec)) fnExactMainWordsUptoCard
end Rows
end Go.Proofs.YtamdcbbclkobiaaGreatDoor
