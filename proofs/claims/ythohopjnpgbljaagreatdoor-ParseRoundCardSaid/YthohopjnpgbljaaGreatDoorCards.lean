/-
  DERIVED. GIVEN WITH THE SEED: THE CARDS: each row of YthohopjnpgbljaaGreatDoorRows.lean that lists a variable, with what it lists TIED to the program's text (the seventh form; the later family's looks); each row that meets fmt, with fmt's text TOLD by the authors' own Lean function (tested against real Go, not proved from fmt's source: count such statements apart). THE CARD IS WHAT COUNTS. Prove the row's statement (the work); the ties are given (YthohopjnpgbljaaGreatDoorTie.lean); close each card by the builder's one call (the guide's Derived/Test/ToyasCard.lean, 'card_holds'). Laid BY PROGRAM, IN A SANDBOX (cutbox-door.mjs). By AI agents, Wed Nov 11 2026. No macro, syntax, notation, axiom, sorry.
-/
import Derived.Test.YthohopjnpgbljaaGreatDoorRows
import GoSem.ClaimSeven
namespace Go.Proofs.YthohopjnpgbljaaGreatDoor
namespace Rows

/-- THE TIED CARD OF 'weftwaylaw05.ParseRound'. -/
def parseRoundCard : Claim7 := { stood := { row := parseRoundRow, standIns := [], harness := (true, "98fca1303604be3b9b810373f63227b43a38352fef89d94c5a1226df75eaf3ef"), looks := false }, kinds := [], alts := [], laidByText := true, laidKinds := [.data, .data, .data, .listed, .data], laidTests := true, laidLooks := .later }
def ParseRoundCardSaid : Prop := Claim7.holds Tryz.pinned (.plain (OpenSpec.ofChange parseRoundSpec)) parseRoundCard

/-- THE SECOND FORM's CARD OF 'weftwaylaw05.ParseRound'. -/
def parseRoundUptoCard : Claim7 := { stood := { row := parseRoundUptoRow, standIns := [], harness := (true, "98fca1303604be3b9b810373f63227b43a38352fef89d94c5a1226df75eaf3ef"), looks := false }, kinds := [], alts := [], laidByText := true, laidKinds := [.data, .data, .data, .listed, .data], laidTests := true, laidLooks := .later }
def ParseRoundUptoCardSaid : Prop := Claim7.holds Tryz.pinned (.plain (OpenSpec.upto parseRoundSpec)) parseRoundUptoCard
end Rows
end Go.Proofs.YthohopjnpgbljaaGreatDoor
