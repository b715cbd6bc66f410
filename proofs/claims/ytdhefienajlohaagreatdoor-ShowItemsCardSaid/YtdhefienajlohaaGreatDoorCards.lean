/-
  DERIVED. GIVEN WITH THE SEED: THE CARDS: each row of YtdhefienajlohaaGreatDoorRows.lean that lists a variable, with what it lists TIED to the program's text (the seventh form; the later family's looks); each row that meets fmt, with fmt's text TOLD by the authors' own Lean function (tested against real Go, not proved from fmt's source: count such statements apart). THE CARD IS WHAT COUNTS. Prove the row's statement (the work); the ties are given (YtdhefienajlohaaGreatDoorTie.lean); close each card by the builder's one call (the guide's Derived/Test/ToyasCard.lean, 'card_holds'). Laid BY PROGRAM, IN A SANDBOX (cutbox-door.mjs). By AI agents, Wed Nov 11 2026. No macro, syntax, notation, axiom, sorry.
-/
import Derived.Test.YtdhefienajlohaaGreatDoorRows
import GoSem.ClaimSeven
namespace Go.Proofs.YtdhefienajlohaaGreatDoor
namespace Rows

/-- THE TIED CARD OF 'weftwaylaw04.ShowItems'. -/
def showItemsCard : Claim7 := { stood := { row := showItemsRow, standIns := [], harness := (true, "6b92b3bbea40ab8fcec81a3ec68c3e33e6c847298e5285bbf39f441cb8e1c303"), looks := false }, kinds := [], alts := [], laidByText := true, laidKinds := [.data, .data, .data, .listed, .data], laidTests := true, laidLooks := .later }
def ShowItemsCardSaid : Prop := Claim7.holds Tryz.pinned (.plain (OpenSpec.ofChange showItemsSpec)) showItemsCard

/-- THE TIED CARD OF 'weftwaylaw04.ShowWraps'. -/
def showWrapsCard : Claim7 := { stood := { row := showWrapsRow, standIns := [], harness := (true, "6b92b3bbea40ab8fcec81a3ec68c3e33e6c847298e5285bbf39f441cb8e1c303"), looks := false }, kinds := [], alts := [], laidByText := true, laidKinds := [.data, .data, .data, .listed, .data], laidTests := true, laidLooks := .later }
def ShowWrapsCardSaid : Prop := Claim7.holds Tryz.pinned (.plain (OpenSpec.ofChange showWrapsSpec)) showWrapsCard

/-- THE TIED CARD OF 'weftwaylaw04.ShowSides'. -/
def showSidesCard : Claim7 := { stood := { row := showSidesRow, standIns := [], harness := (true, "6b92b3bbea40ab8fcec81a3ec68c3e33e6c847298e5285bbf39f441cb8e1c303"), looks := false }, kinds := [], alts := [], laidByText := true, laidKinds := [.data, .data, .data, .listed, .data], laidTests := true, laidLooks := .later }
def ShowSidesCardSaid : Prop := Claim7.holds Tryz.pinned (.plain (OpenSpec.ofChange showSidesSpec)) showSidesCard

/-- THE TIED CARD OF 'weftwaylaw04.ShowOne'. -/
def showOneCard : Claim7 := { stood := { row := showOneRow, standIns := [], harness := (true, "6b92b3bbea40ab8fcec81a3ec68c3e33e6c847298e5285bbf39f441cb8e1c303"), looks := false }, kinds := [], alts := [], laidByText := true, laidKinds := [.data, .data, .data, .listed, .data], laidTests := true, laidLooks := .later }
def ShowOneCardSaid : Prop := Claim7.holds Tryz.pinned (.plain (OpenSpec.ofChange showOneSpec)) showOneCard

/-- THE SECOND FORM's CARD OF 'weftwaylaw04.ShowItems'. -/
def showItemsUptoCard : Claim7 := { stood := { row := showItemsUptoRow, standIns := [], harness := (true, "6b92b3bbea40ab8fcec81a3ec68c3e33e6c847298e5285bbf39f441cb8e1c303"), looks := false }, kinds := [], alts := [], laidByText := true, laidKinds := [.data, .data, .data, .listed, .data], laidTests := true, laidLooks := .later }
def ShowItemsUptoCardSaid : Prop := Claim7.holds Tryz.pinned (.plain (OpenSpec.upto showItemsSpec)) showItemsUptoCard

/-- THE SECOND FORM's CARD OF 'weftwaylaw04.ShowWraps'. -/
def showWrapsUptoCard : Claim7 := { stood := { row := showWrapsUptoRow, standIns := [], harness := (true, "6b92b3bbea40ab8fcec81a3ec68c3e33e6c847298e5285bbf39f441cb8e1c303"), looks := false }, kinds := [], alts := [], laidByText := true, laidKinds := [.data, .data, .data, .listed, .data], laidTests := true, laidLooks := .later }
def ShowWrapsUptoCardSaid : Prop := Claim7.holds Tryz.pinned (.plain (OpenSpec.upto showWrapsSpec)) showWrapsUptoCard

/-- THE SECOND FORM's CARD OF 'weftwaylaw04.ShowSides'. -/
def showSidesUptoCard : Claim7 := { stood := { row := showSidesUptoRow, standIns := [], harness := (true, "6b92b3bbea40ab8fcec81a3ec68c3e33e6c847298e5285bbf39f441cb8e1c303"), looks := false }, kinds := [], alts := [], laidByText := true, laidKinds := [.data, .data, .data, .listed, .data], laidTests := true, laidLooks := .later }
def ShowSidesUptoCardSaid : Prop := Claim7.holds Tryz.pinned (.plain (OpenSpec.upto showSidesSpec)) showSidesUptoCard

/-- THE SECOND FORM's CARD OF 'weftwaylaw04.ShowOne'. -/
def showOneUptoCard : Claim7 := { stood := { row := showOneUptoRow, standIns := [], harness := (true, "6b92b3bbea40ab8fcec81a3ec68c3e33e6c847298e5285bbf39f441cb8e1c303"), looks := false }, kinds := [], alts := [], laidByText := true, laidKinds := [.data, .data, .data, .listed, .data], laidTests := true, laidLooks := .later }
def ShowOneUptoCardSaid : Prop := Claim7.holds Tryz.pinned (.plain (OpenSpec.upto showOneSpec)) showOneUptoCard
end Rows
end Go.Proofs.YtdhefienajlohaaGreatDoor
