/-
  DERIVED. GIVEN WITH THE SEED: THE CARDS: each row of YtlclonljdagpkaaGreatDoorRows.lean that lists a variable, with what it lists TIED to the program's text (the seventh form; the later family's looks); each row that meets fmt, with fmt's text TOLD by the authors' own Lean function (tested against real Go, not proved from fmt's source: count such statements apart). THE CARD IS WHAT COUNTS. Prove the row's statement (the work); the ties are given (YtlclonljdagpkaaGreatDoorTie.lean); close each card by the builder's one call (the guide's Derived/Test/ToyasCard.lean, 'card_holds'). Laid BY PROGRAM, IN A SANDBOX (cutbox-door.mjs). By AI agents, Wed Nov 11 2026. No macro, syntax, notation, axiom, sorry.
-/
import Derived.Test.YtlclonljdagpkaaGreatDoorRows
import GoSem.ClaimSeven
namespace Go.Proofs.YtlclonljdagpkaaGreatDoor
namespace Rows

/-- THE TIED CARD OF 'weftwaylaw05.ParseReads'. -/
def parseReadsCard : Claim7 := { stood := { row := parseReadsRow, standIns := [], harness := (true, "92bfa980a39a1de58a14d80029b31e4c2aa0942bc8df3a59a1279554401ab7ea"), looks := false }, kinds := [], alts := [], laidByText := true, laidKinds := [.listed, .data], laidTests := true, laidLooks := .later }
def ParseReadsCardSaid : Prop := Claim7.holds Tryz.pinned (.plain (OpenSpec.ofChange parseReadsSpec)) parseReadsCard

/-- THE TIED CARD OF 'weftwaylaw07.TablesBoxed'. -/
def tablesBoxedCard : Claim7 := { stood := { row := tablesBoxedRow, standIns := [], harness := (true, "92bfa980a39a1de58a14d80029b31e4c2aa0942bc8df3a59a1279554401ab7ea"), looks := false }, kinds := [], alts := [], laidByText := true, laidKinds := [.listed, .data], laidTests := true, laidLooks := .later }
def TablesBoxedCardSaid : Prop := Claim7.holds Tryz.pinned (.plain (OpenSpec.ofChange tablesBoxedSpec)) tablesBoxedCard

/-- THE TIED CARD OF 'weftwaylaw06.NamesOther'. -/
def namesOtherCard : Claim7 := { stood := { row := namesOtherRow, standIns := [], harness := (true, "92bfa980a39a1de58a14d80029b31e4c2aa0942bc8df3a59a1279554401ab7ea"), looks := false }, kinds := [], alts := [], laidByText := true, laidKinds := [.listed, .data], laidTests := true, laidLooks := .later }
def NamesOtherCardSaid : Prop := Claim7.holds Tryz.pinned (.plain (OpenSpec.ofChange namesOtherSpec)) namesOtherCard

/-- THE TIED CARD OF 'weftwaylaw06.NamesBlock'. -/
def namesBlockCard : Claim7 := { stood := { row := namesBlockRow, standIns := [], harness := (true, "92bfa980a39a1de58a14d80029b31e4c2aa0942bc8df3a59a1279554401ab7ea"), looks := false }, kinds := [], alts := [], laidByText := true, laidKinds := [.listed, .data], laidTests := true, laidLooks := .later }
def NamesBlockCardSaid : Prop := Claim7.holds Tryz.pinned (.plain (OpenSpec.ofChange namesBlockSpec)) namesBlockCard

/-- THE TIED CARD OF 'weftwaylaw06.NamesTurned'. -/
def namesTurnedCard : Claim7 := { stood := { row := namesTurnedRow, standIns := [], harness := (true, "92bfa980a39a1de58a14d80029b31e4c2aa0942bc8df3a59a1279554401ab7ea"), looks := false }, kinds := [], alts := [], laidByText := true, laidKinds := [.listed, .data], laidTests := true, laidLooks := .later }
def NamesTurnedCardSaid : Prop := Claim7.holds Tryz.pinned (.plain (OpenSpec.ofChange namesTurnedSpec)) namesTurnedCard

/-- THE SECOND FORM's CARD OF 'weftwaylaw05.ParseReads'. -/
def parseReadsUptoCard : Claim7 := { stood := { row := parseReadsUptoRow, standIns := [], harness := (true, "92bfa980a39a1de58a14d80029b31e4c2aa0942bc8df3a59a1279554401ab7ea"), looks := false }, kinds := [], alts := [], laidByText := true, laidKinds := [.listed, .data], laidTests := true, laidLooks := .later }
def ParseReadsUptoCardSaid : Prop := Claim7.holds Tryz.pinned (.plain (OpenSpec.upto parseReadsSpec)) parseReadsUptoCard

/-- THE SECOND FORM's CARD OF 'weftwaylaw07.TablesBoxed'. -/
def tablesBoxedUptoCard : Claim7 := { stood := { row := tablesBoxedUptoRow, standIns := [], harness := (true, "92bfa980a39a1de58a14d80029b31e4c2aa0942bc8df3a59a1279554401ab7ea"), looks := false }, kinds := [], alts := [], laidByText := true, laidKinds := [.listed, .data], laidTests := true, laidLooks := .later }
def TablesBoxedUptoCardSaid : Prop := Claim7.holds Tryz.pinned (.plain (OpenSpec.upto tablesBoxedSpec)) tablesBoxedUptoCard

/-- THE SECOND FORM's CARD OF 'weftwaylaw06.NamesOther'. -/
def namesOtherUptoCard : Claim7 := { stood := { row := namesOtherUptoRow, standIns := [], harness := (true, "92bfa980a39a1de58a14d80029b31e4c2aa0942bc8df3a59a1279554401ab7ea"), looks := false }, kinds := [], alts := [], laidByText := true, laidKinds := [.listed, .data], laidTests := true, laidLooks := .later }
def NamesOtherUptoCardSaid : Prop := Claim7.holds Tryz.pinned (.plain (OpenSpec.upto namesOtherSpec)) namesOtherUptoCard

/-- THE SECOND FORM's CARD OF 'weftwaylaw06.NamesBlock'. -/
def namesBlockUptoCard : Claim7 := { stood := { row := namesBlockUptoRow, standIns := [], harness := (true, "92bfa980a39a1de58a14d80029b31e4c2aa0942bc8df3a59a1279554401ab7ea"), looks := false }, kinds := [], alts := [], laidByText := true, laidKinds := [.listed, .data], laidTests := true, laidLooks := .later }
def NamesBlockUptoCardSaid : Prop := Claim7.holds Tryz.pinned (.plain (OpenSpec.upto namesBlockSpec)) namesBlockUptoCard

/-- THE SECOND FORM's CARD OF 'weftwaylaw06.NamesTurned'. -/
def namesTurnedUptoCard : Claim7 := { stood := { row := namesTurnedUptoRow, standIns := [], harness := (true, "92bfa980a39a1de58a14d80029b31e4c2aa0942bc8df3a59a1279554401ab7ea"), looks := false }, kinds := [], alts := [], laidByText := true, laidKinds := [.listed, .data], laidTests := true, laidLooks := .later }
def NamesTurnedUptoCardSaid : Prop := Claim7.holds Tryz.pinned (.plain (OpenSpec.upto namesTurnedSpec)) namesTurnedUptoCard
end Rows
end Go.Proofs.YtlclonljdagpkaaGreatDoor
