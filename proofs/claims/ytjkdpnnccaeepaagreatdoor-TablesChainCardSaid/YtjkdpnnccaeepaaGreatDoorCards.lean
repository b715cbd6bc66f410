/-
  DERIVED. GIVEN WITH THE SEED: THE CARDS: each row of YtjkdpnnccaeepaaGreatDoorRows.lean that lists a variable, with what it lists TIED to the program's text (the seventh form; the later family's looks); each row that meets fmt, with fmt's text TOLD by the authors' own Lean function (tested against real Go, not proved from fmt's source: count such statements apart). THE CARD IS WHAT COUNTS. Prove the row's statement (the work); the ties are given (YtjkdpnnccaeepaaGreatDoorTie.lean); close each card by the builder's one call (the guide's Derived/Test/ToyasCard.lean, 'card_holds'). Laid BY PROGRAM, IN A SANDBOX (cutbox-door.mjs). By AI agents, Wed Nov 11 2026. No macro, syntax, notation, axiom, sorry.
-/
import Derived.Test.YtjkdpnnccaeepaaGreatDoorRows
import GoSem.ClaimSeven
namespace Go.Proofs.YtjkdpnnccaeepaaGreatDoor
namespace Rows

/-- THE TIED CARD OF 'weftwaylaw07.TablesChain'. -/
def tablesChainCard : Claim7 := { stood := { row := tablesChainRow, standIns := [], harness := (true, "5fbe8bc6d024101da8e93ee5241a46fdaeab034ab45fcea82b3fbf7b5b72784d"), looks := false }, kinds := [], alts := [], laidByText := true, laidKinds := [.listed, .data], laidTests := true, laidLooks := .later }
def TablesChainCardSaid : Prop := Claim7.holds Tryz.pinned (.plain (OpenSpec.ofChange tablesChainSpec)) tablesChainCard

/-- THE SECOND FORM's CARD OF 'weftwaylaw07.TablesChain'. -/
def tablesChainUptoCard : Claim7 := { stood := { row := tablesChainUptoRow, standIns := [], harness := (true, "5fbe8bc6d024101da8e93ee5241a46fdaeab034ab45fcea82b3fbf7b5b72784d"), looks := false }, kinds := [], alts := [], laidByText := true, laidKinds := [.listed, .data], laidTests := true, laidLooks := .later }
def TablesChainUptoCardSaid : Prop := Claim7.holds Tryz.pinned (.plain (OpenSpec.upto tablesChainSpec)) tablesChainUptoCard
end Rows
end Go.Proofs.YtjkdpnnccaeepaaGreatDoor
