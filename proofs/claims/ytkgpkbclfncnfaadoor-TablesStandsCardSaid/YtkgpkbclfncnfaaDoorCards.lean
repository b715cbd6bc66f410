/-
  DERIVED. GIVEN WITH THE SEED: THE CARDS: each row of YtkgpkbclfncnfaaDoorRows.lean that lists a variable, with what it lists TIED to the program's text (the seventh form; the later family's looks); each row that meets fmt, with fmt's text TOLD by the authors' own Lean function (tested against real Go, not proved from fmt's source: count such statements apart). THE CARD IS WHAT COUNTS. Prove the row's statement (the work); the ties are given (YtkgpkbclfncnfaaDoorTie.lean); close each card by the builder's one call (the guide's Derived/Test/ToyasCard.lean, 'card_holds'). Laid BY PROGRAM, IN A SANDBOX (cutbox-door.mjs). By AI agents, Wed Nov 11 2026. No macro, syntax, notation, axiom, sorry.
-/
import Derived.Test.YtkgpkbclfncnfaaDoorRows
import GoSem.ClaimSeven
namespace Go.Proofs.YtkgpkbclfncnfaaDoor
namespace Rows

/-- THE TIED CARD OF 'weftwaylaw07.TablesStands'. -/
def tablesStandsCard : Claim7 := { stood := { row := tablesStandsRow, standIns := [], harness := (true, "dbc45575fe32541d9ae4e24f0cc43f1e74585fda9216c44f0e107dda80eeee2a"), looks := false }, kinds := [], alts := [], laidByText := true, laidKinds := [.listed, .data], laidTests := true, laidLooks := .later }
def TablesStandsCardSaid : Prop := Claim7.holds Tryd.pinned (.plain (OpenSpec.ofChange tablesStandsSpec)) tablesStandsCard

/-- THE SECOND FORM's CARD OF 'weftwaylaw07.TablesStands'. -/
def tablesStandsUptoCard : Claim7 := { stood := { row := tablesStandsUptoRow, standIns := [], harness := (true, "dbc45575fe32541d9ae4e24f0cc43f1e74585fda9216c44f0e107dda80eeee2a"), looks := false }, kinds := [], alts := [], laidByText := true, laidKinds := [.listed, .data], laidTests := true, laidLooks := .later }
def TablesStandsUptoCardSaid : Prop := Claim7.holds Tryd.pinned (.plain (OpenSpec.upto tablesStandsSpec)) tablesStandsUptoCard
end Rows
end Go.Proofs.YtkgpkbclfncnfaaDoor
