/-
  NARROWER THAN 'FOR EVERY INPUT', by the rows' own cells (each row's printed sentence says how): TypesPieces: loops, laid · TypesWraps: loops, laid · TypesNone: loops, laid · TypesOwned: loops, laid · AutosRules: loops, laid · AutosLoop: laid · AutosMore: loops, laid · AutosBoth: loops, laid.
  DERIVED. THE GIVEN ROWS OF THIS SEAT. 8 by the template 'for every input the law returns true; each argument reads behind the call as it read before'; 0 by the template 'total and deterministic' (their statements: YtnblhbpfgdjnkaaGreatDoorTotals.lean).
  GIVEN WITH THE SEED: the statements are not yours to turn. If you find one false, say at which input.
  Laid BY PROGRAM, IN A SANDBOX (cutbox-rows.mjs): the forced cells as the released guide's own fill.sh prints them over the translation 989e08e48867ded4… (all of the seat's roots in one cut). By AI agents, Wed Nov 11 2026. No macro, syntax, notation, axiom, sorry.
-/
import Derived.Test.YtnblhbpfgdjnkaaGreatDoorChecked
import GoSem.Claim
import GoSem.ClaimJoined
import GoSem.ClaimMapViews
import Derived.JoinedTies
import Derived.KernelRfl
namespace Go.Proofs.YtnblhbpfgdjnkaaGreatDoor
/- THE CELL 'sum', in the pinned program and in every row, IS THE sha256 OF THE DUMP (.gsa) THAT YtnblhbpfgdjnkaaGreatDoorProg.lean LOADS. Nothing in Lean hashes anything: it is a label: what it is worth is what the hold of that sum in a sandbox is worth. -/
noncomputable def Tryz.pinned : Pinned := { name := "ytnblhbpfgdjnkaagreatdoor", sum := "989e08e48867ded4db4f02efff630cfc2c660dd01a4f8530fbd374d4fce47528", checked := Tryz.checked }
namespace Rows
def none {H : Type} : Left H := { results := [], args := [] }

/- WHAT THE LISTED PACKAGE-LEVEL VARIABLES READ AS WHEN THE CALL BEGINS. Each datum BY PROGRAM (the guide's laid-datum.mjs) off the statement by which the dump's own 'gosem.cut.vars' lays the variable. In a bare row this is a premise. The card (YtnblhbpfgdjnkaaGreatDoorCards.lean) ties it to the program's text. -/
def laid_unicode_White_Space {H : Type} : DataW H := .ptr (.agg [.slice [.agg [.lit (.int .u16 9), .lit (.int .u16 13), .lit (.int .u16 1)], .agg [.lit (.int .u16 32), .lit (.int .u16 133), .lit (.int .u16 101)], .agg [.lit (.int .u16 160), .lit (.int .u16 5760), .lit (.int .u16 5600)], .agg [.lit (.int .u16 8192), .lit (.int .u16 8202), .lit (.int .u16 1)], .agg [.lit (.int .u16 8232), .lit (.int .u16 8233), .lit (.int .u16 1)], .agg [.lit (.int .u16 8239), .lit (.int .u16 8287), .lit (.int .u16 48)], .agg [.lit (.int .u16 12288), .lit (.int .u16 12288), .lit (.int .u16 1)]] [], .nil, .lit (.int .i64 2)])
def laid_strings_asciiSpace {H : Type} : DataW H := .agg [.lit (.int .u8 0), .lit (.int .u8 0), .lit (.int .u8 0), .lit (.int .u8 0), .lit (.int .u8 0), .lit (.int .u8 0), .lit (.int .u8 0), .lit (.int .u8 0), .lit (.int .u8 0), .lit (.int .u8 1), .lit (.int .u8 1), .lit (.int .u8 1), .lit (.int .u8 1), .lit (.int .u8 1), .lit (.int .u8 0), .lit (.int .u8 0), .lit (.int .u8 0), .lit (.int .u8 0), .lit (.int .u8 0), .lit (.int .u8 0), .lit (.int .u8 0), .lit (.int .u8 0), .lit (.int .u8 0), .lit (.int .u8 0), .lit (.int .u8 0), .lit (.int .u8 0), .lit (.int .u8 0), .lit (.int .u8 0), .lit (.int .u8 0), .lit (.int .u8 0), .lit (.int .u8 0), .lit (.int .u8 0), .lit (.int .u8 1), .lit (.int .u8 0), .lit (.int .u8 0), .lit (.int .u8 0), .lit (.int .u8 0), .lit (.int .u8 0), .lit (.int .u8 0), .lit (.int .u8 0), .lit (.int .u8 0), .lit (.int .u8 0), .lit (.int .u8 0), .lit (.int .u8 0), .lit (.int .u8 0), .lit (.int .u8 0), .lit (.int .u8 0), .lit (.int .u8 0), .lit (.int .u8 0), .lit (.int .u8 0), .lit (.int .u8 0), .lit (.int .u8 0), .lit (.int .u8 0), .lit (.int .u8 0), .lit (.int .u8 0), .lit (.int .u8 0), .lit (.int .u8 0), .lit (.int .u8 0), .lit (.int .u8 0), .lit (.int .u8 0), .lit (.int .u8 0), .lit (.int .u8 0), .lit (.int .u8 0), .lit (.int .u8 0), .lit (.int .u8 0), .lit (.int .u8 0), .lit (.int .u8 0), .lit (.int .u8 0), .lit (.int .u8 0), .lit (.int .u8 0), .lit (.int .u8 0), .lit (.int .u8 0), .lit (.int .u8 0), .lit (.int .u8 0), .lit (.int .u8 0), .lit (.int .u8 0), .lit (.int .u8 0), .lit (.int .u8 0), .lit (.int .u8 0), .lit (.int .u8 0), .lit (.int .u8 0), .lit (.int .u8 0), .lit (.int .u8 0), .lit (.int .u8 0), .lit (.int .u8 0), .lit (.int .u8 0), .lit (.int .u8 0), .lit (.int .u8 0), .lit (.int .u8 0), .lit (.int .u8 0), .lit (.int .u8 0), .lit (.int .u8 0), .lit (.int .u8 0), .lit (.int .u8 0), .lit (.int .u8 0), .lit (.int .u8 0), .lit (.int .u8 0), .lit (.int .u8 0), .lit (.int .u8 0), .lit (.int .u8 0), .lit (.int .u8 0), .lit (.int .u8 0), .lit (.int .u8 0), .lit (.int .u8 0), .lit (.int .u8 0), .lit (.int .u8 0), .lit (.int .u8 0), .lit (.int .u8 0), .lit (.int .u8 0), .lit (.int .u8 0), .lit (.int .u8 0), .lit (.int .u8 0), .lit (.int .u8 0), .lit (.int .u8 0), .lit (.int .u8 0), .lit (.int .u8 0), .lit (.int .u8 0), .lit (.int .u8 0), .lit (.int .u8 0), .lit (.int .u8 0), .lit (.int .u8 0), .lit (.int .u8 0), .lit (.int .u8 0), .lit (.int .u8 0), .lit (.int .u8 0), .lit (.int .u8 0), .lit (.int .u8 0), .lit (.int .u8 0), .lit (.int .u8 0), .lit (.int .u8 0), .lit (.int .u8 0), .lit (.int .u8 0), .lit (.int .u8 0), .lit (.int .u8 0), .lit (.int .u8 0), .lit (.int .u8 0), .lit (.int .u8 0), .lit (.int .u8 0), .lit (.int .u8 0), .lit (.int .u8 0), .lit (.int .u8 0), .lit (.int .u8 0), .lit (.int .u8 0), .lit (.int .u8 0), .lit (.int .u8 0), .lit (.int .u8 0), .lit (.int .u8 0), .lit (.int .u8 0), .lit (.int .u8 0), .lit (.int .u8 0), .lit (.int .u8 0), .lit (.int .u8 0), .lit (.int .u8 0), .lit (.int .u8 0), .lit (.int .u8 0), .lit (.int .u8 0), .lit (.int .u8 0), .lit (.int .u8 0), .lit (.int .u8 0), .lit (.int .u8 0), .lit (.int .u8 0), .lit (.int .u8 0), .lit (.int .u8 0), .lit (.int .u8 0), .lit (.int .u8 0), .lit (.int .u8 0), .lit (.int .u8 0), .lit (.int .u8 0), .lit (.int .u8 0), .lit (.int .u8 0), .lit (.int .u8 0), .lit (.int .u8 0), .lit (.int .u8 0), .lit (.int .u8 0), .lit (.int .u8 0), .lit (.int .u8 0), .lit (.int .u8 0), .lit (.int .u8 0), .lit (.int .u8 0), .lit (.int .u8 0), .lit (.int .u8 0), .lit (.int .u8 0), .lit (.int .u8 0), .lit (.int .u8 0), .lit (.int .u8 0), .lit (.int .u8 0), .lit (.int .u8 0), .lit (.int .u8 0), .lit (.int .u8 0), .lit (.int .u8 0), .lit (.int .u8 0), .lit (.int .u8 0), .lit (.int .u8 0), .lit (.int .u8 0), .lit (.int .u8 0), .lit (.int .u8 0), .lit (.int .u8 0), .lit (.int .u8 0), .lit (.int .u8 0), .lit (.int .u8 0), .lit (.int .u8 0), .lit (.int .u8 0), .lit (.int .u8 0), .lit (.int .u8 0), .lit (.int .u8 0), .lit (.int .u8 0), .lit (.int .u8 0), .lit (.int .u8 0), .lit (.int .u8 0), .lit (.int .u8 0), .lit (.int .u8 0), .lit (.int .u8 0), .lit (.int .u8 0), .lit (.int .u8 0), .lit (.int .u8 0), .lit (.int .u8 0), .lit (.int .u8 0), .lit (.int .u8 0), .lit (.int .u8 0), .lit (.int .u8 0), .lit (.int .u8 0), .lit (.int .u8 0), .lit (.int .u8 0), .lit (.int .u8 0), .lit (.int .u8 0), .lit (.int .u8 0), .lit (.int .u8 0), .lit (.int .u8 0), .lit (.int .u8 0), .lit (.int .u8 0), .lit (.int .u8 0), .lit (.int .u8 0), .lit (.int .u8 0), .lit (.int .u8 0), .lit (.int .u8 0), .lit (.int .u8 0), .lit (.int .u8 0), .lit (.int .u8 0), .lit (.int .u8 0), .lit (.int .u8 0), .lit (.int .u8 0), .lit (.int .u8 0), .lit (.int .u8 0), .lit (.int .u8 0), .lit (.int .u8 0), .lit (.int .u8 0), .lit (.int .u8 0), .lit (.int .u8 0), .lit (.int .u8 0), .lit (.int .u8 0), .lit (.int .u8 0), .lit (.int .u8 0), .lit (.int .u8 0), .lit (.int .u8 0), .lit (.int .u8 0), .lit (.int .u8 0)]

/-- 'weftwaylaw08.TypesPieces': WHATEVER THE INPUT: true; the input reads as it did. -/
def typesPiecesSpec : ChangeSpec := { name := "typesPieces", fn := fun _ => fun
  | [d1, d2, d3, d4] => { results := [.lit (.bool true)], args := [d1, d2, d3, d4] }
  | _ => none }
def typesPiecesRow : OpenClaim := { program := "ytnblhbpfgdjnkaagreatdoor", sum := "989e08e48867ded4db4f02efff630cfc2c660dd01a4f8530fbd374d4fce47528", func := "weftway/weftwaylaw08.TypesPieces", spec := "typesPieces", inPlace := ["internal/bytealg.IndexByteString", "math/bits.Add64"], unfollowed := true, recurses := true, named := ["strings.asciiSpace", "unicode.White_Space"], loops := true, plainKeys := false, apart := false, laid := [("unicode.White_Space", laid_unicode_White_Space), ("strings.asciiSpace", laid_strings_asciiSpace)] }
def TypesPiecesSaid : Prop := typesPiecesRow.holds Tryz.pinned (OpenSpec.ofChange typesPiecesSpec)

/-- ITS FALSE NEIGHBOUR: 'it returns false'. Refute it at one input. -/
def typesPiecesWrong : ChangeSpec := { name := "typesPieces", fn := fun _ => fun
  | [d1, d2, d3, d4] => { results := [.lit (.bool false)], args := [d1, d2, d3, d4] }
  | _ => none }
def TypesPiecesWrongFalsely : Prop := typesPiecesRow.holds Tryz.pinned (OpenSpec.ofChange typesPiecesWrong)

/-- 'weftwaylaw08.TypesWraps': WHATEVER THE INPUT: true; the input reads as it did. -/
def typesWrapsSpec : ChangeSpec := { name := "typesWraps", fn := fun _ => fun
  | [d1, d2] => { results := [.lit (.bool true)], args := [d1, d2] }
  | _ => none }
def typesWrapsRow : OpenClaim := { program := "ytnblhbpfgdjnkaagreatdoor", sum := "989e08e48867ded4db4f02efff630cfc2c660dd01a4f8530fbd374d4fce47528", func := "weftway/weftwaylaw08.TypesWraps", spec := "typesWraps", inPlace := ["internal/bytealg.IndexByteString", "math/bits.Add64"], unfollowed := true, recurses := true, named := ["strings.asciiSpace", "unicode.White_Space"], loops := true, plainKeys := false, apart := false, laid := [("unicode.White_Space", laid_unicode_White_Space), ("strings.asciiSpace", laid_strings_asciiSpace)] }
def TypesWrapsSaid : Prop := typesWrapsRow.holds Tryz.pinned (OpenSpec.ofChange typesWrapsSpec)

/-- ITS FALSE NEIGHBOUR: 'it returns false'. Refute it at one input. -/
def typesWrapsWrong : ChangeSpec := { name := "typesWraps", fn := fun _ => fun
  | [d1, d2] => { results := [.lit (.bool false)], args := [d1, d2] }
  | _ => none }
def TypesWrapsWrongFalsely : Prop := typesWrapsRow.holds Tryz.pinned (OpenSpec.ofChange typesWrapsWrong)

/-- 'weftwaylaw08.TypesNone': WHATEVER THE INPUT: true; the input reads as it did. -/
def typesNoneSpec : ChangeSpec := { name := "typesNone", fn := fun _ => fun
  | [d1, d2, d3] => { results := [.lit (.bool true)], args := [d1, d2, d3] }
  | _ => none }
def typesNoneRow : OpenClaim := { program := "ytnblhbpfgdjnkaagreatdoor", sum := "989e08e48867ded4db4f02efff630cfc2c660dd01a4f8530fbd374d4fce47528", func := "weftway/weftwaylaw08.TypesNone", spec := "typesNone", inPlace := ["internal/bytealg.IndexByteString", "math/bits.Add64"], unfollowed := true, recurses := true, named := ["strings.asciiSpace", "unicode.White_Space"], loops := true, plainKeys := false, apart := false, laid := [("unicode.White_Space", laid_unicode_White_Space), ("strings.asciiSpace", laid_strings_asciiSpace)] }
def TypesNoneSaid : Prop := typesNoneRow.holds Tryz.pinned (OpenSpec.ofChange typesNoneSpec)

/-- ITS FALSE NEIGHBOUR: 'it returns false'. Refute it at one input. -/
def typesNoneWrong : ChangeSpec := { name := "typesNone", fn := fun _ => fun
  | [d1, d2, d3] => { results := [.lit (.bool false)], args := [d1, d2, d3] }
  | _ => none }
def TypesNoneWrongFalsely : Prop := typesNoneRow.holds Tryz.pinned (OpenSpec.ofChange typesNoneWrong)

/-- 'weftwaylaw08.TypesOwned': WHATEVER THE INPUT: true; the input reads as it did. -/
def typesOwnedSpec : ChangeSpec := { name := "typesOwned", fn := fun _ => fun
  | [d1, d2, d3] => { results := [.lit (.bool true)], args := [d1, d2, d3] }
  | _ => none }
def typesOwnedRow : OpenClaim := { program := "ytnblhbpfgdjnkaagreatdoor", sum := "989e08e48867ded4db4f02efff630cfc2c660dd01a4f8530fbd374d4fce47528", func := "weftway/weftwaylaw08.TypesOwned", spec := "typesOwned", inPlace := ["internal/bytealg.IndexByteString", "math/bits.Add64"], unfollowed := true, recurses := true, named := ["strings.asciiSpace", "unicode.White_Space"], loops := true, plainKeys := false, apart := false, laid := [("unicode.White_Space", laid_unicode_White_Space), ("strings.asciiSpace", laid_strings_asciiSpace)] }
def TypesOwnedSaid : Prop := typesOwnedRow.holds Tryz.pinned (OpenSpec.ofChange typesOwnedSpec)

/-- ITS FALSE NEIGHBOUR: 'it returns false'. Refute it at one input. -/
def typesOwnedWrong : ChangeSpec := { name := "typesOwned", fn := fun _ => fun
  | [d1, d2, d3] => { results := [.lit (.bool false)], args := [d1, d2, d3] }
  | _ => none }
def TypesOwnedWrongFalsely : Prop := typesOwnedRow.holds Tryz.pinned (OpenSpec.ofChange typesOwnedWrong)

/-- 'weftwaylaw09.AutosRules': WHATEVER THE INPUT: true; the input reads as it did. -/
def autosRulesSpec : ChangeSpec := { name := "autosRules", fn := fun _ => fun
  | [d1, d2] => { results := [.lit (.bool true)], args := [d1, d2] }
  | _ => none }
def autosRulesRow : OpenClaim := { program := "ytnblhbpfgdjnkaagreatdoor", sum := "989e08e48867ded4db4f02efff630cfc2c660dd01a4f8530fbd374d4fce47528", func := "weftway/weftwaylaw09.AutosRules", spec := "autosRules", inPlace := ["internal/bytealg.IndexByteString", "math/bits.Add64"], unfollowed := true, recurses := true, named := ["strings.asciiSpace", "unicode.White_Space"], loops := true, plainKeys := false, apart := false, laid := [("unicode.White_Space", laid_unicode_White_Space), ("strings.asciiSpace", laid_strings_asciiSpace)] }
def AutosRulesSaid : Prop := autosRulesRow.holds Tryz.pinned (OpenSpec.ofChange autosRulesSpec)

/-- ITS FALSE NEIGHBOUR: 'it returns false'. Refute it at one input. -/
def autosRulesWrong : ChangeSpec := { name := "autosRules", fn := fun _ => fun
  | [d1, d2] => { results := [.lit (.bool false)], args := [d1, d2] }
  | _ => none }
def AutosRulesWrongFalsely : Prop := autosRulesRow.holds Tryz.pinned (OpenSpec.ofChange autosRulesWrong)

/-- 'weftwaylaw09.AutosLoop': WHATEVER THE INPUT: true; the input reads as it did. -/
def autosLoopSpec : ChangeSpec := { name := "autosLoop", fn := fun _ => fun
  | [d1, d2, d3] => { results := [.lit (.bool true)], args := [d1, d2, d3] }
  | _ => none }
def autosLoopRow : OpenClaim := { program := "ytnblhbpfgdjnkaagreatdoor", sum := "989e08e48867ded4db4f02efff630cfc2c660dd01a4f8530fbd374d4fce47528", func := "weftway/weftwaylaw09.AutosLoop", spec := "autosLoop", inPlace := ["internal/bytealg.IndexByteString", "math/bits.Add64"], unfollowed := true, recurses := true, named := ["strings.asciiSpace", "unicode.White_Space"], plainKeys := false, apart := false, laid := [("unicode.White_Space", laid_unicode_White_Space), ("strings.asciiSpace", laid_strings_asciiSpace)] }
def AutosLoopSaid : Prop := autosLoopRow.holds Tryz.pinned (OpenSpec.ofChange autosLoopSpec)

/-- ITS FALSE NEIGHBOUR: 'it returns false'. Refute it at one input. -/
def autosLoopWrong : ChangeSpec := { name := "autosLoop", fn := fun _ => fun
  | [d1, d2, d3] => { results := [.lit (.bool false)], args := [d1, d2, d3] }
  | _ => none }
def AutosLoopWrongFalsely : Prop := autosLoopRow.holds Tryz.pinned (OpenSpec.ofChange autosLoopWrong)

/-- 'weftwaylaw09.AutosMore': WHATEVER THE INPUT: true; the input reads as it did. -/
def autosMoreSpec : ChangeSpec := { name := "autosMore", fn := fun _ => fun
  | [d1, d2, d3] => { results := [.lit (.bool true)], args := [d1, d2, d3] }
  | _ => none }
def autosMoreRow : OpenClaim := { program := "ytnblhbpfgdjnkaagreatdoor", sum := "989e08e48867ded4db4f02efff630cfc2c660dd01a4f8530fbd374d4fce47528", func := "weftway/weftwaylaw09.AutosMore", spec := "autosMore", inPlace := ["internal/bytealg.IndexByteString", "math/bits.Add64"], unfollowed := true, recurses := true, named := ["strings.asciiSpace", "unicode.White_Space"], loops := true, plainKeys := false, apart := false, laid := [("unicode.White_Space", laid_unicode_White_Space), ("strings.asciiSpace", laid_strings_asciiSpace)] }
def AutosMoreSaid : Prop := autosMoreRow.holds Tryz.pinned (OpenSpec.ofChange autosMoreSpec)

/-- ITS FALSE NEIGHBOUR: 'it returns false'. Refute it at one input. -/
def autosMoreWrong : ChangeSpec := { name := "autosMore", fn := fun _ => fun
  | [d1, d2, d3] => { results := [.lit (.bool false)], args := [d1, d2, d3] }
  | _ => none }
def AutosMoreWrongFalsely : Prop := autosMoreRow.holds Tryz.pinned (OpenSpec.ofChange autosMoreWrong)

/-- 'weftwaylaw09.AutosBoth': WHATEVER THE INPUT: true; the input reads as it did. -/
def autosBothSpec : ChangeSpec := { name := "autosBoth", fn := fun _ => fun
  | [d1, d2] => { results := [.lit (.bool true)], args := [d1, d2] }
  | _ => none }
def autosBothRow : OpenClaim := { program := "ytnblhbpfgdjnkaagreatdoor", sum := "989e08e48867ded4db4f02efff630cfc2c660dd01a4f8530fbd374d4fce47528", func := "weftway/weftwaylaw09.AutosBoth", spec := "autosBoth", inPlace := ["internal/bytealg.IndexByteString", "math/bits.Add64"], unfollowed := true, recurses := true, named := ["strings.asciiSpace", "unicode.White_Space"], loops := true, plainKeys := false, apart := false, laid := [("unicode.White_Space", laid_unicode_White_Space), ("strings.asciiSpace", laid_strings_asciiSpace)] }
def AutosBothSaid : Prop := autosBothRow.holds Tryz.pinned (OpenSpec.ofChange autosBothSpec)

/-- ITS FALSE NEIGHBOUR: 'it returns false'. Refute it at one input. -/
def autosBothWrong : ChangeSpec := { name := "autosBoth", fn := fun _ => fun
  | [d1, d2] => { results := [.lit (.bool false)], args := [d1, d2] }
  | _ => none }
def AutosBothWrongFalsely : Prop := autosBothRow.holds Tryz.pinned (OpenSpec.ofChange autosBothWrong)

/- THE SECOND FORM. 'bulk': how many values and letters a reading holds, each counted each time it is reached (what is shared counts as often as it is met; a slice's spare places count too). A statement '..UptoSaid' is the law's where the arguments, and the package variables that the reading takes, are together of bulk at most 1048576: NARROWER than '..Said'. Prove '..Said' where nothing that the law and all that it calls make is longer than what came in: it says more and counts as full. Else prove '..UptoSaid'. A law counts once. -/
mutual
def uptoBulk {H : Type} : DataW H → Nat
  | .lit (.string bytes) => bytes.length + 1
  | .lit _ => 1
  | .nil => 1
  | .ptr d => uptoBulk d + 1
  | .slice elems spare => uptoBulkAll elems + uptoBulkAll spare + 1
  | .agg parts => uptoBulkAll parts + 1
  | .iface _ d => uptoBulk d + 1
  | .map entries => uptoBulkEntries entries + 1
  | .held _ => 1
def uptoBulkAll {H : Type} : List (DataW H) → Nat
  | [] => 0
  | d :: r => uptoBulk d + uptoBulkAll r
def uptoBulkEntries {H : Type} : List (Lit × DataW H) → Nat
  | [] => 0
  | x :: r => uptoBulkEntry x + uptoBulkEntries r
def uptoBulkEntry {H : Type} : Lit × DataW H → Nat
  | (.string bytes, d) => bytes.length + uptoBulk d + 1
  | (_, d) => uptoBulk d + 1
 end
def uptoSmall : (H : Type) → List (DataW H) → Bool := fun _ ds => decide (uptoBulkAll ds ≤ 1048576)
def OpenSpec.upto (s : _root_.Go.ChangeSpec) : _root_.Go.OpenSpec := { _root_.Go.OpenSpec.ofChange s with cond := some uptoSmall }

/-- 'weftwaylaw08.TypesPieces', WHERE WHAT IT READS IS OF BULK AT MOST 1048576: true; the input reads as it did. -/
def typesPiecesUptoRow : OpenClaim := { program := "ytnblhbpfgdjnkaagreatdoor", sum := "989e08e48867ded4db4f02efff630cfc2c660dd01a4f8530fbd374d4fce47528", func := "weftway/weftwaylaw08.TypesPieces", spec := "typesPieces", inPlace := ["internal/bytealg.IndexByteString", "math/bits.Add64"], unfollowed := true, recurses := true, named := ["strings.asciiSpace", "unicode.White_Space"], loops := true, plainKeys := false, apart := false, laid := [("unicode.White_Space", laid_unicode_White_Space), ("strings.asciiSpace", laid_strings_asciiSpace)], narrowed := true }
def TypesPiecesUptoSaid : Prop := typesPiecesUptoRow.holds Tryz.pinned (OpenSpec.upto typesPiecesSpec)

/-- 'weftwaylaw08.TypesWraps', WHERE WHAT IT READS IS OF BULK AT MOST 1048576: true; the input reads as it did. -/
def typesWrapsUptoRow : OpenClaim := { program := "ytnblhbpfgdjnkaagreatdoor", sum := "989e08e48867ded4db4f02efff630cfc2c660dd01a4f8530fbd374d4fce47528", func := "weftway/weftwaylaw08.TypesWraps", spec := "typesWraps", inPlace := ["internal/bytealg.IndexByteString", "math/bits.Add64"], unfollowed := true, recurses := true, named := ["strings.asciiSpace", "unicode.White_Space"], loops := true, plainKeys := false, apart := false, laid := [("unicode.White_Space", laid_unicode_White_Space), ("strings.asciiSpace", laid_strings_asciiSpace)], narrowed := true }
def TypesWrapsUptoSaid : Prop := typesWrapsUptoRow.holds Tryz.pinned (OpenSpec.upto typesWrapsSpec)

/-- 'weftwaylaw08.TypesNone', WHERE WHAT IT READS IS OF BULK AT MOST 1048576: true; the input reads as it did. -/
def typesNoneUptoRow : OpenClaim := { program := "ytnblhbpfgdjnkaagreatdoor", sum := "989e08e48867ded4db4f02efff630cfc2c660dd01a4f8530fbd374d4fce47528", func := "weftway/weftwaylaw08.TypesNone", spec := "typesNone", inPlace := ["internal/bytealg.IndexByteString", "math/bits.Add64"], unfollowed := true, recurses := true, named := ["strings.asciiSpace", "unicode.White_Space"], loops := true, plainKeys := false, apart := false, laid := [("unicode.White_Space", laid_unicode_White_Space), ("strings.asciiSpace", laid_strings_asciiSpace)], narrowed := true }
def TypesNoneUptoSaid : Prop := typesNoneUptoRow.holds Tryz.pinned (OpenSpec.upto typesNoneSpec)

/-- 'weftwaylaw08.TypesOwned', WHERE WHAT IT READS IS OF BULK AT MOST 1048576: true; the input reads as it did. -/
def typesOwnedUptoRow : OpenClaim := { program := "ytnblhbpfgdjnkaagreatdoor", sum := "989e08e48867ded4db4f02efff630cfc2c660dd01a4f8530fbd374d4fce47528", func := "weftway/weftwaylaw08.TypesOwned", spec := "typesOwned", inPlace := ["internal/bytealg.IndexByteString", "math/bits.Add64"], unfollowed := true, recurses := true, named := ["strings.asciiSpace", "unicode.White_Space"], loops := true, plainKeys := false, apart := false, laid := [("unicode.White_Space", laid_unicode_White_Space), ("strings.asciiSpace", laid_strings_asciiSpace)], narrowed := true }
def TypesOwnedUptoSaid : Prop := typesOwnedUptoRow.holds Tryz.pinned (OpenSpec.upto typesOwnedSpec)

/-- 'weftwaylaw09.AutosRules', WHERE WHAT IT READS IS OF BULK AT MOST 1048576: true; the input reads as it did. -/
def autosRulesUptoRow : OpenClaim := { program := "ytnblhbpfgdjnkaagreatdoor", sum := "989e08e48867ded4db4f02efff630cfc2c660dd01a4f8530fbd374d4fce47528", func := "weftway/weftwaylaw09.AutosRules", spec := "autosRules", inPlace := ["internal/bytealg.IndexByteString", "math/bits.Add64"], unfollowed := true, recurses := true, named := ["strings.asciiSpace", "unicode.White_Space"], loops := true, plainKeys := false, apart := false, laid := [("unicode.White_Space", laid_unicode_White_Space), ("strings.asciiSpace", laid_strings_asciiSpace)], narrowed := true }
def AutosRulesUptoSaid : Prop := autosRulesUptoRow.holds Tryz.pinned (OpenSpec.upto autosRulesSpec)

/-- 'weftwaylaw09.AutosLoop', WHERE WHAT IT READS IS OF BULK AT MOST 1048576: true; the input reads as it did. -/
def autosLoopUptoRow : OpenClaim := { program := "ytnblhbpfgdjnkaagreatdoor", sum := "989e08e48867ded4db4f02efff630cfc2c660dd01a4f8530fbd374d4fce47528", func := "weftway/weftwaylaw09.AutosLoop", spec := "autosLoop", inPlace := ["internal/bytealg.IndexByteString", "math/bits.Add64"], unfollowed := true, recurses := true, named := ["strings.asciiSpace", "unicode.White_Space"], plainKeys := false, apart := false, laid := [("unicode.White_Space", laid_unicode_White_Space), ("strings.asciiSpace", laid_strings_asciiSpace)], narrowed := true }
def AutosLoopUptoSaid : Prop := autosLoopUptoRow.holds Tryz.pinned (OpenSpec.upto autosLoopSpec)

/-- 'weftwaylaw09.AutosMore', WHERE WHAT IT READS IS OF BULK AT MOST 1048576: true; the input reads as it did. -/
def autosMoreUptoRow : OpenClaim := { program := "ytnblhbpfgdjnkaagreatdoor", sum := "989e08e48867ded4db4f02efff630cfc2c660dd01a4f8530fbd374d4fce47528", func := "weftway/weftwaylaw09.AutosMore", spec := "autosMore", inPlace := ["internal/bytealg.IndexByteString", "math/bits.Add64"], unfollowed := true, recurses := true, named := ["strings.asciiSpace", "unicode.White_Space"], loops := true, plainKeys := false, apart := false, laid := [("unicode.White_Space", laid_unicode_White_Space), ("strings.asciiSpace", laid_strings_asciiSpace)], narrowed := true }
def AutosMoreUptoSaid : Prop := autosMoreUptoRow.holds Tryz.pinned (OpenSpec.upto autosMoreSpec)

/-- 'weftwaylaw09.AutosBoth', WHERE WHAT IT READS IS OF BULK AT MOST 1048576: true; the input reads as it did. -/
def autosBothUptoRow : OpenClaim := { program := "ytnblhbpfgdjnkaagreatdoor", sum := "989e08e48867ded4db4f02efff630cfc2c660dd01a4f8530fbd374d4fce47528", func := "weftway/weftwaylaw09.AutosBoth", spec := "autosBoth", inPlace := ["internal/bytealg.IndexByteString", "math/bits.Add64"], unfollowed := true, recurses := true, named := ["strings.asciiSpace", "unicode.White_Space"], loops := true, plainKeys := false, apart := false, laid := [("unicode.White_Space", laid_unicode_White_Space), ("strings.asciiSpace", laid_strings_asciiSpace)], narrowed := true }
def AutosBothUptoSaid : Prop := autosBothUptoRow.holds Tryz.pinned (OpenSpec.upto autosBothSpec)

end Rows
end Go.Proofs.YtnblhbpfgdjnkaaGreatDoor
