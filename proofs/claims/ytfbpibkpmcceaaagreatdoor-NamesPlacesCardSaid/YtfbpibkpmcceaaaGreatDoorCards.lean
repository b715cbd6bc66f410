/-
  DERIVED. GIVEN WITH THE SEED: THE CARDS: each row of YtfbpibkpmcceaaaGreatDoorRows.lean that lists a variable, with what it lists TIED to the program's text (the seventh form; the later family's looks); each row that meets fmt, with fmt's text TOLD by the authors' own Lean function (tested against real Go, not proved from fmt's source: count such statements apart). THE CARD IS WHAT COUNTS. Prove the row's statement (the work); the ties are given (YtfbpibkpmcceaaaGreatDoorTie.lean); close each card by the builder's one call (the guide's Derived/Test/ToyasCard.lean, 'card_holds'). Laid BY PROGRAM, IN A SANDBOX (cutbox-door.mjs). By AI agents, Wed Nov 11 2026. No macro, syntax, notation, axiom, sorry.
-/
import Derived.Test.YtfbpibkpmcceaaaGreatDoorRows
import GoSem.ClaimSeven
namespace Go.Proofs.YtfbpibkpmcceaaaGreatDoor
namespace Rows

/-- THE TIED CARD OF 'weftwaylaw06.NamesCheck'. -/
def namesCheckCard : Claim7 := { stood := { row := namesCheckRow, standIns := [], harness := (true, "b8a36855e691d00267e2d22e073e98fea21d926a37fad4268104e2392946e1b1"), looks := false }, kinds := [], alts := [], laidByText := true, laidKinds := [.listed, .data], laidTests := true, laidLooks := .later }
def NamesCheckCardSaid : Prop := Claim7.holds Tryz.pinned (.plain (OpenSpec.ofChange namesCheckSpec)) namesCheckCard

/-- THE TIED CARD OF 'weftwaylaw06.NamesOther'. -/
def namesOtherCard : Claim7 := { stood := { row := namesOtherRow, standIns := [], harness := (true, "b8a36855e691d00267e2d22e073e98fea21d926a37fad4268104e2392946e1b1"), looks := false }, kinds := [], alts := [], laidByText := true, laidKinds := [.listed, .data], laidTests := true, laidLooks := .later }
def NamesOtherCardSaid : Prop := Claim7.holds Tryz.pinned (.plain (OpenSpec.ofChange namesOtherSpec)) namesOtherCard

/-- THE TIED CARD OF 'weftwaylaw06.NamesPlaces'. -/
def namesPlacesCard : Claim7 := { stood := { row := namesPlacesRow, standIns := [], harness := (true, "b8a36855e691d00267e2d22e073e98fea21d926a37fad4268104e2392946e1b1"), looks := false }, kinds := [], alts := [], laidByText := true, laidKinds := [.listed, .data], laidTests := true, laidLooks := .later }
def NamesPlacesCardSaid : Prop := Claim7.holds Tryz.pinned (.plain (OpenSpec.ofChange namesPlacesSpec)) namesPlacesCard

/-- THE TIED CARD OF 'weftwaylaw06.NamesBlock'. -/
def namesBlockCard : Claim7 := { stood := { row := namesBlockRow, standIns := [], harness := (true, "b8a36855e691d00267e2d22e073e98fea21d926a37fad4268104e2392946e1b1"), looks := false }, kinds := [], alts := [], laidByText := true, laidKinds := [.listed, .data], laidTests := true, laidLooks := .later }
def NamesBlockCardSaid : Prop := Claim7.holds Tryz.pinned (.plain (OpenSpec.ofChange namesBlockSpec)) namesBlockCard

/-- THE TIED CARD OF 'weftwaylaw06.NamesTurned'. -/
def namesTurnedCard : Claim7 := { stood := { row := namesTurnedRow, standIns := [], harness := (true, "b8a36855e691d00267e2d22e073e98fea21d926a37fad4268104e2392946e1b1"), looks := false }, kinds := [], alts := [], laidByText := true, laidKinds := [.listed, .data], laidTests := true, laidLooks := .later }
def NamesTurnedCardSaid : Prop := Claim7.holds Tryz.pinned (.plain (OpenSpec.ofChange namesTurnedSpec)) namesTurnedCard

/-- THE SECOND FORM's CARD OF 'weftwaylaw06.NamesCheck'. -/
def namesCheckUptoCard : Claim7 := { stood := { row := namesCheckUptoRow, standIns := [], harness := (true, "b8a36855e691d00267e2d22e073e98fea21d926a37fad4268104e2392946e1b1"), looks := false }, kinds := [], alts := [], laidByText := true, laidKinds := [.listed, .data], laidTests := true, laidLooks := .later }
def NamesCheckUptoCardSaid : Prop := Claim7.holds Tryz.pinned (.plain (OpenSpec.upto namesCheckSpec)) namesCheckUptoCard

/-- THE SECOND FORM's CARD OF 'weftwaylaw06.NamesOther'. -/
def namesOtherUptoCard : Claim7 := { stood := { row := namesOtherUptoRow, standIns := [], harness := (true, "b8a36855e691d00267e2d22e073e98fea21d926a37fad4268104e2392946e1b1"), looks := false }, kinds := [], alts := [], laidByText := true, laidKinds := [.listed, .data], laidTests := true, laidLooks := .later }
def NamesOtherUptoCardSaid : Prop := Claim7.holds Tryz.pinned (.plain (OpenSpec.upto namesOtherSpec)) namesOtherUptoCard

/-- THE SECOND FORM's CARD OF 'weftwaylaw06.NamesPlaces'. -/
def namesPlacesUptoCard : Claim7 := { stood := { row := namesPlacesUptoRow, standIns := [], harness := (true, "b8a36855e691d00267e2d22e073e98fea21d926a37fad4268104e2392946e1b1"), looks := false }, kinds := [], alts := [], laidByText := true, laidKinds := [.listed, .data], laidTests := true, laidLooks := .later }
def NamesPlacesUptoCardSaid : Prop := Claim7.holds Tryz.pinned (.plain (OpenSpec.upto namesPlacesSpec)) namesPlacesUptoCard

/-- THE SECOND FORM's CARD OF 'weftwaylaw06.NamesBlock'. -/
def namesBlockUptoCard : Claim7 := { stood := { row := namesBlockUptoRow, standIns := [], harness := (true, "b8a36855e691d00267e2d22e073e98fea21d926a37fad4268104e2392946e1b1"), looks := false }, kinds := [], alts := [], laidByText := true, laidKinds := [.listed, .data], laidTests := true, laidLooks := .later }
def NamesBlockUptoCardSaid : Prop := Claim7.holds Tryz.pinned (.plain (OpenSpec.upto namesBlockSpec)) namesBlockUptoCard

/-- THE SECOND FORM's CARD OF 'weftwaylaw06.NamesTurned'. -/
def namesTurnedUptoCard : Claim7 := { stood := { row := namesTurnedUptoRow, standIns := [], harness := (true, "b8a36855e691d00267e2d22e073e98fea21d926a37fad4268104e2392946e1b1"), looks := false }, kinds := [], alts := [], laidByText := true, laidKinds := [.listed, .data], laidTests := true, laidLooks := .later }
def NamesTurnedUptoCardSaid : Prop := Claim7.holds Tryz.pinned (.plain (OpenSpec.upto namesTurnedSpec)) namesTurnedUptoCard
end Rows
end Go.Proofs.YtfbpibkpmcceaaaGreatDoor
