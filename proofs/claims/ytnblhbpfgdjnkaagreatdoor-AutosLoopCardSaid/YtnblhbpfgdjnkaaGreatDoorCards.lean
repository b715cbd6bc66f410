/-
  DERIVED. GIVEN WITH THE SEED: THE CARDS: each row of YtnblhbpfgdjnkaaGreatDoorRows.lean that lists a variable, with what it lists TIED to the program's text (the seventh form; the later family's looks); each row that meets fmt, with fmt's text TOLD by the authors' own Lean function (tested against real Go, not proved from fmt's source: count such statements apart). THE CARD IS WHAT COUNTS. Prove the row's statement (the work); the ties are given (YtnblhbpfgdjnkaaGreatDoorTie.lean); close each card by the builder's one call (the guide's Derived/Test/ToyasCard.lean, 'card_holds'). Laid BY PROGRAM, IN A SANDBOX (cutbox-door.mjs). By AI agents, Wed Nov 11 2026. No macro, syntax, notation, axiom, sorry.
-/
import Derived.Test.YtnblhbpfgdjnkaaGreatDoorRows
import GoSem.ClaimSeven
namespace Go.Proofs.YtnblhbpfgdjnkaaGreatDoor
namespace Rows

/-- THE TIED CARD OF 'weftwaylaw08.TypesPieces'. -/
def typesPiecesCard : Claim7 := { stood := { row := typesPiecesRow, standIns := [], harness := (true, "ac95fde3e5ada8a3801fcf25df3cccc5fd988cde21189b59261da7605343c614"), looks := false }, kinds := [], alts := [], laidByText := true, laidKinds := [.listed, .data], laidTests := true, laidLooks := .later }
def TypesPiecesCardSaid : Prop := Claim7.holds Tryz.pinned (.plain (OpenSpec.ofChange typesPiecesSpec)) typesPiecesCard

/-- THE TIED CARD OF 'weftwaylaw08.TypesWraps'. -/
def typesWrapsCard : Claim7 := { stood := { row := typesWrapsRow, standIns := [], harness := (true, "ac95fde3e5ada8a3801fcf25df3cccc5fd988cde21189b59261da7605343c614"), looks := false }, kinds := [], alts := [], laidByText := true, laidKinds := [.listed, .data], laidTests := true, laidLooks := .later }
def TypesWrapsCardSaid : Prop := Claim7.holds Tryz.pinned (.plain (OpenSpec.ofChange typesWrapsSpec)) typesWrapsCard

/-- THE TIED CARD OF 'weftwaylaw08.TypesNone'. -/
def typesNoneCard : Claim7 := { stood := { row := typesNoneRow, standIns := [], harness := (true, "ac95fde3e5ada8a3801fcf25df3cccc5fd988cde21189b59261da7605343c614"), looks := false }, kinds := [], alts := [], laidByText := true, laidKinds := [.listed, .data], laidTests := true, laidLooks := .later }
def TypesNoneCardSaid : Prop := Claim7.holds Tryz.pinned (.plain (OpenSpec.ofChange typesNoneSpec)) typesNoneCard

/-- THE TIED CARD OF 'weftwaylaw08.TypesOwned'. -/
def typesOwnedCard : Claim7 := { stood := { row := typesOwnedRow, standIns := [], harness := (true, "ac95fde3e5ada8a3801fcf25df3cccc5fd988cde21189b59261da7605343c614"), looks := false }, kinds := [], alts := [], laidByText := true, laidKinds := [.listed, .data], laidTests := true, laidLooks := .later }
def TypesOwnedCardSaid : Prop := Claim7.holds Tryz.pinned (.plain (OpenSpec.ofChange typesOwnedSpec)) typesOwnedCard

/-- THE TIED CARD OF 'weftwaylaw09.AutosRules'. -/
def autosRulesCard : Claim7 := { stood := { row := autosRulesRow, standIns := [], harness := (true, "ac95fde3e5ada8a3801fcf25df3cccc5fd988cde21189b59261da7605343c614"), looks := false }, kinds := [], alts := [], laidByText := true, laidKinds := [.listed, .data], laidTests := true, laidLooks := .later }
def AutosRulesCardSaid : Prop := Claim7.holds Tryz.pinned (.plain (OpenSpec.ofChange autosRulesSpec)) autosRulesCard

/-- THE TIED CARD OF 'weftwaylaw09.AutosLoop'. -/
def autosLoopCard : Claim7 := { stood := { row := autosLoopRow, standIns := [], harness := (true, "ac95fde3e5ada8a3801fcf25df3cccc5fd988cde21189b59261da7605343c614"), looks := false }, kinds := [], alts := [], laidByText := true, laidKinds := [.listed, .data], laidTests := true, laidLooks := .later }
def AutosLoopCardSaid : Prop := Claim7.holds Tryz.pinned (.plain (OpenSpec.ofChange autosLoopSpec)) autosLoopCard

/-- THE TIED CARD OF 'weftwaylaw09.AutosMore'. -/
def autosMoreCard : Claim7 := { stood := { row := autosMoreRow, standIns := [], harness := (true, "ac95fde3e5ada8a3801fcf25df3cccc5fd988cde21189b59261da7605343c614"), looks := false }, kinds := [], alts := [], laidByText := true, laidKinds := [.listed, .data], laidTests := true, laidLooks := .later }
def AutosMoreCardSaid : Prop := Claim7.holds Tryz.pinned (.plain (OpenSpec.ofChange autosMoreSpec)) autosMoreCard

/-- THE TIED CARD OF 'weftwaylaw09.AutosBoth'. -/
def autosBothCard : Claim7 := { stood := { row := autosBothRow, standIns := [], harness := (true, "ac95fde3e5ada8a3801fcf25df3cccc5fd988cde21189b59261da7605343c614"), looks := false }, kinds := [], alts := [], laidByText := true, laidKinds := [.listed, .data], laidTests := true, laidLooks := .later }
def AutosBothCardSaid : Prop := Claim7.holds Tryz.pinned (.plain (OpenSpec.ofChange autosBothSpec)) autosBothCard

/-- THE SECOND FORM's CARD OF 'weftwaylaw08.TypesPieces'. -/
def typesPiecesUptoCard : Claim7 := { stood := { row := typesPiecesUptoRow, standIns := [], harness := (true, "ac95fde3e5ada8a3801fcf25df3cccc5fd988cde21189b59261da7605343c614"), looks := false }, kinds := [], alts := [], laidByText := true, laidKinds := [.listed, .data], laidTests := true, laidLooks := .later }
def TypesPiecesUptoCardSaid : Prop := Claim7.holds Tryz.pinned (.plain (OpenSpec.upto typesPiecesSpec)) typesPiecesUptoCard

/-- THE SECOND FORM's CARD OF 'weftwaylaw08.TypesWraps'. -/
def typesWrapsUptoCard : Claim7 := { stood := { row := typesWrapsUptoRow, standIns := [], harness := (true, "ac95fde3e5ada8a3801fcf25df3cccc5fd988cde21189b59261da7605343c614"), looks := false }, kinds := [], alts := [], laidByText := true, laidKinds := [.listed, .data], laidTests := true, laidLooks := .later }
def TypesWrapsUptoCardSaid : Prop := Claim7.holds Tryz.pinned (.plain (OpenSpec.upto typesWrapsSpec)) typesWrapsUptoCard

/-- THE SECOND FORM's CARD OF 'weftwaylaw08.TypesNone'. -/
def typesNoneUptoCard : Claim7 := { stood := { row := typesNoneUptoRow, standIns := [], harness := (true, "ac95fde3e5ada8a3801fcf25df3cccc5fd988cde21189b59261da7605343c614"), looks := false }, kinds := [], alts := [], laidByText := true, laidKinds := [.listed, .data], laidTests := true, laidLooks := .later }
def TypesNoneUptoCardSaid : Prop := Claim7.holds Tryz.pinned (.plain (OpenSpec.upto typesNoneSpec)) typesNoneUptoCard

/-- THE SECOND FORM's CARD OF 'weftwaylaw08.TypesOwned'. -/
def typesOwnedUptoCard : Claim7 := { stood := { row := typesOwnedUptoRow, standIns := [], harness := (true, "ac95fde3e5ada8a3801fcf25df3cccc5fd988cde21189b59261da7605343c614"), looks := false }, kinds := [], alts := [], laidByText := true, laidKinds := [.listed, .data], laidTests := true, laidLooks := .later }
def TypesOwnedUptoCardSaid : Prop := Claim7.holds Tryz.pinned (.plain (OpenSpec.upto typesOwnedSpec)) typesOwnedUptoCard

/-- THE SECOND FORM's CARD OF 'weftwaylaw09.AutosRules'. -/
def autosRulesUptoCard : Claim7 := { stood := { row := autosRulesUptoRow, standIns := [], harness := (true, "ac95fde3e5ada8a3801fcf25df3cccc5fd988cde21189b59261da7605343c614"), looks := false }, kinds := [], alts := [], laidByText := true, laidKinds := [.listed, .data], laidTests := true, laidLooks := .later }
def AutosRulesUptoCardSaid : Prop := Claim7.holds Tryz.pinned (.plain (OpenSpec.upto autosRulesSpec)) autosRulesUptoCard

/-- THE SECOND FORM's CARD OF 'weftwaylaw09.AutosLoop'. -/
def autosLoopUptoCard : Claim7 := { stood := { row := autosLoopUptoRow, standIns := [], harness := (true, "ac95fde3e5ada8a3801fcf25df3cccc5fd988cde21189b59261da7605343c614"), looks := false }, kinds := [], alts := [], laidByText := true, laidKinds := [.listed, .data], laidTests := true, laidLooks := .later }
def AutosLoopUptoCardSaid : Prop := Claim7.holds Tryz.pinned (.plain (OpenSpec.upto autosLoopSpec)) autosLoopUptoCard

/-- THE SECOND FORM's CARD OF 'weftwaylaw09.AutosMore'. -/
def autosMoreUptoCard : Claim7 := { stood := { row := autosMoreUptoRow, standIns := [], harness := (true, "ac95fde3e5ada8a3801fcf25df3cccc5fd988cde21189b59261da7605343c614"), looks := false }, kinds := [], alts := [], laidByText := true, laidKinds := [.listed, .data], laidTests := true, laidLooks := .later }
def AutosMoreUptoCardSaid : Prop := Claim7.holds Tryz.pinned (.plain (OpenSpec.upto autosMoreSpec)) autosMoreUptoCard

/-- THE SECOND FORM's CARD OF 'weftwaylaw09.AutosBoth'. -/
def autosBothUptoCard : Claim7 := { stood := { row := autosBothUptoRow, standIns := [], harness := (true, "ac95fde3e5ada8a3801fcf25df3cccc5fd988cde21189b59261da7605343c614"), looks := false }, kinds := [], alts := [], laidByText := true, laidKinds := [.listed, .data], laidTests := true, laidLooks := .later }
def AutosBothUptoCardSaid : Prop := Claim7.holds Tryz.pinned (.plain (OpenSpec.upto autosBothSpec)) autosBothUptoCard
end Rows
end Go.Proofs.YtnblhbpfgdjnkaaGreatDoor
