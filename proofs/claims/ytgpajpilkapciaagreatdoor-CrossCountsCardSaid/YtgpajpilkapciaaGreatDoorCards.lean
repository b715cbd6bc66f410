/-
  DERIVED. GIVEN WITH THE SEED: THE CARDS: each row of YtgpajpilkapciaaGreatDoorRows.lean that lists a variable, with what it lists TIED to the program's text (the seventh form; the later family's looks); each row that meets fmt, with fmt's text TOLD by the authors' own Lean function (tested against real Go, not proved from fmt's source: count such statements apart). THE CARD IS WHAT COUNTS. Prove the row's statement (the work); the ties are given (YtgpajpilkapciaaGreatDoorTie.lean); close each card by the builder's one call (the guide's Derived/Test/ToyasCard.lean, 'card_holds'). Laid BY PROGRAM, IN A SANDBOX (cutbox-door.mjs). By AI agents, Wed Nov 11 2026. No macro, syntax, notation, axiom, sorry.
-/
import Derived.Test.YtgpajpilkapciaaGreatDoorRows
import GoSem.ClaimSeven
namespace Go.Proofs.YtgpajpilkapciaaGreatDoor
namespace Rows

/-- THE TIED CARD OF 'weftwaylaw15.CrossShared'. -/
def crossSharedCard : Claim7 := { stood := { row := crossSharedRow, standIns := [], harness := (true, "78ce225be1da4281eaa0c82745a43e2769e5431bc1f158c051bd1c9cf315c9b6"), looks := true }, kinds := [], alts := [], laidByText := true, laidKinds := [.listed, .data], laidTests := true, laidLooks := .later }
def CrossSharedCardSaid : Prop := Claim7.holds Tryz.pinned (.plain (OpenSpec.ofChange crossSharedSpec)) crossSharedCard

/-- THE TIED CARD OF 'weftwaylaw15.CrossCounts'. -/
def crossCountsCard : Claim7 := { stood := { row := crossCountsRow, standIns := [], harness := (true, "78ce225be1da4281eaa0c82745a43e2769e5431bc1f158c051bd1c9cf315c9b6"), looks := true }, kinds := [], alts := [], laidByText := true, laidKinds := [.listed, .data], laidTests := true, laidLooks := .later }
def CrossCountsCardSaid : Prop := Claim7.holds Tryz.pinned (.plain (OpenSpec.ofChange crossCountsSpec)) crossCountsCard

/-- THE SECOND FORM's CARD OF 'weftwaylaw15.CrossShared'. -/
def crossSharedUptoCard : Claim7 := { stood := { row := crossSharedUptoRow, standIns := [], harness := (true, "78ce225be1da4281eaa0c82745a43e2769e5431bc1f158c051bd1c9cf315c9b6"), looks := true }, kinds := [], alts := [], laidByText := true, laidKinds := [.listed, .data], laidTests := true, laidLooks := .later }
def CrossSharedUptoCardSaid : Prop := Claim7.holds Tryz.pinned (.plain (OpenSpec.upto crossSharedSpec)) crossSharedUptoCard

/-- THE SECOND FORM's CARD OF 'weftwaylaw15.CrossCounts'. -/
def crossCountsUptoCard : Claim7 := { stood := { row := crossCountsUptoRow, standIns := [], harness := (true, "78ce225be1da4281eaa0c82745a43e2769e5431bc1f158c051bd1c9cf315c9b6"), looks := true }, kinds := [], alts := [], laidByText := true, laidKinds := [.listed, .data], laidTests := true, laidLooks := .later }
def CrossCountsUptoCardSaid : Prop := Claim7.holds Tryz.pinned (.plain (OpenSpec.upto crossCountsSpec)) crossCountsUptoCard
end Rows
end Go.Proofs.YtgpajpilkapciaaGreatDoor
