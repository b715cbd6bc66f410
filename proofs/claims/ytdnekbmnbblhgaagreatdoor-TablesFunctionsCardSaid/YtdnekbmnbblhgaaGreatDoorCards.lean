/-
  DERIVED. GIVEN WITH THE SEED: THE CARDS: each row of YtdnekbmnbblhgaaGreatDoorRows.lean that lists a variable, with what it lists TIED to the program's text (the seventh form; the later family's looks); each row that meets fmt, with fmt's text TOLD by the authors' own Lean function (tested against real Go, not proved from fmt's source: count such statements apart). THE CARD IS WHAT COUNTS. Prove the row's statement (the work); the ties are given (YtdnekbmnbblhgaaGreatDoorTie.lean); close each card by the builder's one call (the guide's Derived/Test/ToyasCard.lean, 'card_holds'). Laid BY PROGRAM, IN A SANDBOX (cutbox-door.mjs). By AI agents, Wed Nov 11 2026. No macro, syntax, notation, axiom, sorry.
-/
import Derived.Test.YtdnekbmnbblhgaaGreatDoorRows
import GoSem.ClaimSeven
namespace Go.Proofs.YtdnekbmnbblhgaaGreatDoor
namespace Rows

/-- THE TIED CARD OF 'weftwaylaw04.ShowTokens'. -/
def showTokensCard : Claim7 := { stood := { row := showTokensRow, standIns := [], harness := (true, "8d2dc84f5c8c9c0929993be5c1e57e079bdfd0775c35de7802b574888f37465d"), looks := false }, kinds := [], alts := [], laidByText := true, laidKinds := [.data, .data, .data, .listed, .data], laidTests := true, laidLooks := .later }
def ShowTokensCardSaid : Prop := Claim7.holds Tryz.pinned (.plain (OpenSpec.ofChange showTokensSpec)) showTokensCard

/-- THE TIED CARD OF 'weftwaylaw07.TablesWithin'. -/
def tablesWithinCard : Claim7 := { stood := { row := tablesWithinRow, standIns := [], harness := (true, "8d2dc84f5c8c9c0929993be5c1e57e079bdfd0775c35de7802b574888f37465d"), looks := false }, kinds := [], alts := [], laidByText := true, laidKinds := [.listed, .data], laidTests := true, laidLooks := .later }
def TablesWithinCardSaid : Prop := Claim7.holds Tryz.pinned (.plain (OpenSpec.ofChange tablesWithinSpec)) tablesWithinCard

/-- THE TIED CARD OF 'weftwaylaw07.TablesFunctions'. -/
def tablesFunctionsCard : Claim7 := { stood := { row := tablesFunctionsRow, standIns := [], harness := (true, "8d2dc84f5c8c9c0929993be5c1e57e079bdfd0775c35de7802b574888f37465d"), looks := false }, kinds := [], alts := [], laidByText := true, laidKinds := [.listed, .data], laidTests := true, laidLooks := .later }
def TablesFunctionsCardSaid : Prop := Claim7.holds Tryz.pinned (.plain (OpenSpec.ofChange tablesFunctionsSpec)) tablesFunctionsCard

/-- THE TIED CARD OF 'weftwaylaw07.TablesChain'. -/
def tablesChainCard : Claim7 := { stood := { row := tablesChainRow, standIns := [], harness := (true, "8d2dc84f5c8c9c0929993be5c1e57e079bdfd0775c35de7802b574888f37465d"), looks := false }, kinds := [], alts := [], laidByText := true, laidKinds := [.listed, .data], laidTests := true, laidLooks := .later }
def TablesChainCardSaid : Prop := Claim7.holds Tryz.pinned (.plain (OpenSpec.ofChange tablesChainSpec)) tablesChainCard

/-- THE SECOND FORM's CARD OF 'weftwaylaw04.ShowTokens'. -/
def showTokensUptoCard : Claim7 := { stood := { row := showTokensUptoRow, standIns := [], harness := (true, "8d2dc84f5c8c9c0929993be5c1e57e079bdfd0775c35de7802b574888f37465d"), looks := false }, kinds := [], alts := [], laidByText := true, laidKinds := [.data, .data, .data, .listed, .data], laidTests := true, laidLooks := .later }
def ShowTokensUptoCardSaid : Prop := Claim7.holds Tryz.pinned (.plain (OpenSpec.upto showTokensSpec)) showTokensUptoCard

/-- THE SECOND FORM's CARD OF 'weftwaylaw07.TablesWithin'. -/
def tablesWithinUptoCard : Claim7 := { stood := { row := tablesWithinUptoRow, standIns := [], harness := (true, "8d2dc84f5c8c9c0929993be5c1e57e079bdfd0775c35de7802b574888f37465d"), looks := false }, kinds := [], alts := [], laidByText := true, laidKinds := [.listed, .data], laidTests := true, laidLooks := .later }
def TablesWithinUptoCardSaid : Prop := Claim7.holds Tryz.pinned (.plain (OpenSpec.upto tablesWithinSpec)) tablesWithinUptoCard

/-- THE SECOND FORM's CARD OF 'weftwaylaw07.TablesFunctions'. -/
def tablesFunctionsUptoCard : Claim7 := { stood := { row := tablesFunctionsUptoRow, standIns := [], harness := (true, "8d2dc84f5c8c9c0929993be5c1e57e079bdfd0775c35de7802b574888f37465d"), looks := false }, kinds := [], alts := [], laidByText := true, laidKinds := [.listed, .data], laidTests := true, laidLooks := .later }
def TablesFunctionsUptoCardSaid : Prop := Claim7.holds Tryz.pinned (.plain (OpenSpec.upto tablesFunctionsSpec)) tablesFunctionsUptoCard

/-- THE SECOND FORM's CARD OF 'weftwaylaw07.TablesChain'. -/
def tablesChainUptoCard : Claim7 := { stood := { row := tablesChainUptoRow, standIns := [], harness := (true, "8d2dc84f5c8c9c0929993be5c1e57e079bdfd0775c35de7802b574888f37465d"), looks := false }, kinds := [], alts := [], laidByText := true, laidKinds := [.listed, .data], laidTests := true, laidLooks := .later }
def TablesChainUptoCardSaid : Prop := Claim7.holds Tryz.pinned (.plain (OpenSpec.upto tablesChainSpec)) tablesChainUptoCard
end Rows
end Go.Proofs.YtdnekbmnbblhgaaGreatDoor
