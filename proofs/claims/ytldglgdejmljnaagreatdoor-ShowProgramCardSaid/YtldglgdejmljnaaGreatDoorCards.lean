/-
  DERIVED. GIVEN WITH THE SEED: THE CARDS: each row of YtldglgdejmljnaaGreatDoorRows.lean that lists a variable, with what it lists TIED to the program's text (the seventh form; the later family's looks); each row that meets fmt, with fmt's text TOLD by the authors' own Lean function (tested against real Go, not proved from fmt's source: count such statements apart). THE CARD IS WHAT COUNTS. Prove the row's statement (the work); the ties are given (YtldglgdejmljnaaGreatDoorTie.lean); close each card by the builder's one call (the guide's Derived/Test/ToyasCard.lean, 'card_holds'). Laid BY PROGRAM, IN A SANDBOX (cutbox-door.mjs). By AI agents, Wed Nov 11 2026. No macro, syntax, notation, axiom, sorry.
-/
import Derived.Test.YtldglgdejmljnaaGreatDoorRows
import GoSem.ClaimSeven
namespace Go.Proofs.YtldglgdejmljnaaGreatDoor
namespace Rows

/-- THE TIED CARD OF 'weftwaylaw04.ShowParts'. -/
def showPartsCard : Claim7 := { stood := { row := showPartsRow, standIns := [], harness := (true, "a309214a9b25b3188daa1e1fa8305e61077ab35f4e4a11a3b9b530771f97919f"), looks := false }, kinds := [], alts := [], laidByText := true, laidKinds := [.data, .data, .data, .listed, .data], laidTests := true, laidLooks := .later }
def ShowPartsCardSaid : Prop := Claim7.holds Tryz.pinned (.plain (OpenSpec.ofChange showPartsSpec)) showPartsCard

/-- THE TIED CARD OF 'weftwaylaw04.ShowProgram'. -/
def showProgramCard : Claim7 := { stood := { row := showProgramRow, standIns := [], harness := (true, "a309214a9b25b3188daa1e1fa8305e61077ab35f4e4a11a3b9b530771f97919f"), looks := false }, kinds := [], alts := [], laidByText := true, laidKinds := [.data, .data, .data, .listed, .data], laidTests := true, laidLooks := .later }
def ShowProgramCardSaid : Prop := Claim7.holds Tryz.pinned (.plain (OpenSpec.ofChange showProgramSpec)) showProgramCard

/-- THE SECOND FORM's CARD OF 'weftwaylaw04.ShowParts'. -/
def showPartsUptoCard : Claim7 := { stood := { row := showPartsUptoRow, standIns := [], harness := (true, "a309214a9b25b3188daa1e1fa8305e61077ab35f4e4a11a3b9b530771f97919f"), looks := false }, kinds := [], alts := [], laidByText := true, laidKinds := [.data, .data, .data, .listed, .data], laidTests := true, laidLooks := .later }
def ShowPartsUptoCardSaid : Prop := Claim7.holds Tryz.pinned (.plain (OpenSpec.upto showPartsSpec)) showPartsUptoCard

/-- THE SECOND FORM's CARD OF 'weftwaylaw04.ShowProgram'. -/
def showProgramUptoCard : Claim7 := { stood := { row := showProgramUptoRow, standIns := [], harness := (true, "a309214a9b25b3188daa1e1fa8305e61077ab35f4e4a11a3b9b530771f97919f"), looks := false }, kinds := [], alts := [], laidByText := true, laidKinds := [.data, .data, .data, .listed, .data], laidTests := true, laidLooks := .later }
def ShowProgramUptoCardSaid : Prop := Claim7.holds Tryz.pinned (.plain (OpenSpec.upto showProgramSpec)) showProgramUptoCard
end Rows
end Go.Proofs.YtldglgdejmljnaaGreatDoor
