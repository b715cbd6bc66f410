/-
  DERIVED. GIVEN WITH THE SEED: THE CARDS: each row of YtdflkegnmmkkoaaGreatDoorRows.lean that lists a variable, with what it lists TIED to the program's text (the seventh form; the later family's looks); each row that meets fmt, with fmt's text TOLD by the authors' own Lean function (tested against real Go, not proved from fmt's source: count such statements apart). THE CARD IS WHAT COUNTS. Prove the row's statement (the work); the ties are given (YtdflkegnmmkkoaaGreatDoorTie.lean); close each card by the builder's one call (the guide's Derived/Test/ToyasCard.lean, 'card_holds'). Laid BY PROGRAM, IN A SANDBOX (cutbox-door.mjs). By AI agents, Wed Nov 11 2026. No macro, syntax, notation, axiom, sorry.
-/
import Derived.Test.YtdflkegnmmkkoaaGreatDoorRows
import GoSem.ClaimSeven
namespace Go.Proofs.YtdflkegnmmkkoaaGreatDoor
namespace Rows

/-- THE TIED CARD OF 'weftwaylaw10.TypingMore'. -/
def typingMoreCard : Claim7 := { stood := { row := typingMoreRow, standIns := [], harness := (true, "eda6a3d35a57c3009eabd0f66a665ce15c8548d7dda862e113afca5a6aec70de"), looks := true }, kinds := [], alts := [], laidByText := true, laidKinds := [.listed, .data], laidTests := true, laidLooks := .later }
def TypingMoreCardSaid : Prop := Claim7.holds Tryz.pinned (.plain (OpenSpec.ofChange typingMoreSpec)) typingMoreCard

/-- THE TIED CARD OF 'weftwaylaw10.TypingResult'. -/
def typingResultCard : Claim7 := { stood := { row := typingResultRow, standIns := [], harness := (true, "eda6a3d35a57c3009eabd0f66a665ce15c8548d7dda862e113afca5a6aec70de"), looks := true }, kinds := [], alts := [], laidByText := true, laidKinds := [.listed, .data], laidTests := true, laidLooks := .later }
def TypingResultCardSaid : Prop := Claim7.holds Tryz.pinned (.plain (OpenSpec.ofChange typingResultSpec)) typingResultCard

/-- THE TIED CARD OF 'weftwaylaw10.TypingWraps'. -/
def typingWrapsCard : Claim7 := { stood := { row := typingWrapsRow, standIns := [], harness := (true, "eda6a3d35a57c3009eabd0f66a665ce15c8548d7dda862e113afca5a6aec70de"), looks := true }, kinds := [], alts := [], laidByText := true, laidKinds := [.listed, .data], laidTests := true, laidLooks := .later }
def TypingWrapsCardSaid : Prop := Claim7.holds Tryz.pinned (.plain (OpenSpec.ofChange typingWrapsSpec)) typingWrapsCard

/-- THE TIED CARD OF 'weftwaylaw10.TypingOwned'. -/
def typingOwnedCard : Claim7 := { stood := { row := typingOwnedRow, standIns := [], harness := (true, "eda6a3d35a57c3009eabd0f66a665ce15c8548d7dda862e113afca5a6aec70de"), looks := true }, kinds := [], alts := [], laidByText := true, laidKinds := [.listed, .data], laidTests := true, laidLooks := .later }
def TypingOwnedCardSaid : Prop := Claim7.holds Tryz.pinned (.plain (OpenSpec.ofChange typingOwnedSpec)) typingOwnedCard

/-- THE TIED CARD OF 'weftwaylaw10.TypingLent'. -/
def typingLentCard : Claim7 := { stood := { row := typingLentRow, standIns := [], harness := (true, "eda6a3d35a57c3009eabd0f66a665ce15c8548d7dda862e113afca5a6aec70de"), looks := true }, kinds := [], alts := [], laidByText := true, laidKinds := [.listed, .data], laidTests := true, laidLooks := .later }
def TypingLentCardSaid : Prop := Claim7.holds Tryz.pinned (.plain (OpenSpec.ofChange typingLentSpec)) typingLentCard

/-- THE SECOND FORM's CARD OF 'weftwaylaw10.TypingMore'. -/
def typingMoreUptoCard : Claim7 := { stood := { row := typingMoreUptoRow, standIns := [], harness := (true, "eda6a3d35a57c3009eabd0f66a665ce15c8548d7dda862e113afca5a6aec70de"), looks := true }, kinds := [], alts := [], laidByText := true, laidKinds := [.listed, .data], laidTests := true, laidLooks := .later }
def TypingMoreUptoCardSaid : Prop := Claim7.holds Tryz.pinned (.plain (OpenSpec.upto typingMoreSpec)) typingMoreUptoCard

/-- THE SECOND FORM's CARD OF 'weftwaylaw10.TypingResult'. -/
def typingResultUptoCard : Claim7 := { stood := { row := typingResultUptoRow, standIns := [], harness := (true, "eda6a3d35a57c3009eabd0f66a665ce15c8548d7dda862e113afca5a6aec70de"), looks := true }, kinds := [], alts := [], laidByText := true, laidKinds := [.listed, .data], laidTests := true, laidLooks := .later }
def TypingResultUptoCardSaid : Prop := Claim7.holds Tryz.pinned (.plain (OpenSpec.upto typingResultSpec)) typingResultUptoCard

/-- THE SECOND FORM's CARD OF 'weftwaylaw10.TypingWraps'. -/
def typingWrapsUptoCard : Claim7 := { stood := { row := typingWrapsUptoRow, standIns := [], harness := (true, "eda6a3d35a57c3009eabd0f66a665ce15c8548d7dda862e113afca5a6aec70de"), looks := true }, kinds := [], alts := [], laidByText := true, laidKinds := [.listed, .data], laidTests := true, laidLooks := .later }
def TypingWrapsUptoCardSaid : Prop := Claim7.holds Tryz.pinned (.plain (OpenSpec.upto typingWrapsSpec)) typingWrapsUptoCard

/-- THE SECOND FORM's CARD OF 'weftwaylaw10.TypingOwned'. -/
def typingOwnedUptoCard : Claim7 := { stood := { row := typingOwnedUptoRow, standIns := [], harness := (true, "eda6a3d35a57c3009eabd0f66a665ce15c8548d7dda862e113afca5a6aec70de"), looks := true }, kinds := [], alts := [], laidByText := true, laidKinds := [.listed, .data], laidTests := true, laidLooks := .later }
def TypingOwnedUptoCardSaid : Prop := Claim7.holds Tryz.pinned (.plain (OpenSpec.upto typingOwnedSpec)) typingOwnedUptoCard

/-- THE SECOND FORM's CARD OF 'weftwaylaw10.TypingLent'. -/
def typingLentUptoCard : Claim7 := { stood := { row := typingLentUptoRow, standIns := [], harness := (true, "eda6a3d35a57c3009eabd0f66a665ce15c8548d7dda862e113afca5a6aec70de"), looks := true }, kinds := [], alts := [], laidByText := true, laidKinds := [.listed, .data], laidTests := true, laidLooks := .later }
def TypingLentUptoCardSaid : Prop := Claim7.holds Tryz.pinned (.plain (OpenSpec.upto typingLentSpec)) typingLentUptoCard
end Rows
end Go.Proofs.YtdflkegnmmkkoaaGreatDoor
