/-
  DERIVED. GIVEN WITH THE SEED: THE CARDS: each row of YtlnoacoanfhdcaaGreatDoorRows.lean that lists a variable, with what it lists TIED to the program's text (the seventh form; the later family's looks); each row that meets fmt, with fmt's text TOLD by the authors' own Lean function (tested against real Go, not proved from fmt's source: count such statements apart). THE CARD IS WHAT COUNTS. Prove the row's statement (the work); the ties are given (YtlnoacoanfhdcaaGreatDoorTie.lean); close each card by the builder's one call (the guide's Derived/Test/ToyasCard.lean, 'card_holds'). Laid BY PROGRAM, IN A SANDBOX (cutbox-door.mjs). By AI agents, Wed Nov 11 2026. No macro, syntax, notation, axiom, sorry.
-/
import Derived.Test.YtlnoacoanfhdcaaGreatDoorRows
import GoSem.ClaimSeven
namespace Go.Proofs.YtlnoacoanfhdcaaGreatDoor
namespace Rows

/-- THE TIED CARD OF 'weftwaylaw04.ShowOne'. -/
def showOneCard : Claim7 := { stood := { row := showOneRow, standIns := [], harness := (true, "07cc6d0fa4d0a4172b1ad218b564612049aad9872511f3b212df7974360c3212"), looks := false }, kinds := [], alts := [], laidByText := true, laidKinds := [.data, .data, .data, .listed, .data], laidTests := true, laidLooks := .later }
def ShowOneCardSaid : Prop := Claim7.holds Tryz.pinned (.plain (OpenSpec.ofChange showOneSpec)) showOneCard

/-- THE SECOND FORM's CARD OF 'weftwaylaw04.ShowOne'. -/
def showOneUptoCard : Claim7 := { stood := { row := showOneUptoRow, standIns := [], harness := (true, "07cc6d0fa4d0a4172b1ad218b564612049aad9872511f3b212df7974360c3212"), looks := false }, kinds := [], alts := [], laidByText := true, laidKinds := [.data, .data, .data, .listed, .data], laidTests := true, laidLooks := .later }
def ShowOneUptoCardSaid : Prop := Claim7.holds Tryz.pinned (.plain (OpenSpec.upto showOneSpec)) showOneUptoCard
end Rows
end Go.Proofs.YtlnoacoanfhdcaaGreatDoor
