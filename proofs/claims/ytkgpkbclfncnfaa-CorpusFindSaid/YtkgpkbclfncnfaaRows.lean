/-
  NARROWER THAN 'FOR EVERY INPUT', by the rows' own cells (each row's printed sentence says how): TypesKinds: loops · NamesFind: loops.
  DERIVED. THE GIVEN ROWS OF THIS SEAT. 4 by the template 'for every input the law returns true; each argument reads behind the call as it read before'; 0 by the template 'total and deterministic' (their statements: YtkgpkbclfncnfaaTotals.lean).
  GIVEN WITH THE SEED: the statements are not yours to turn. If you find one false, say at which input.
  Laid BY PROGRAM, IN A SANDBOX (cutbox-rows.mjs): the forced cells as the released guide's own fill.sh prints them over the translation 0de7b6050439ae62… (all of the seat's roots in one cut). By AI agents, Wed Nov 11 2026. No macro, syntax, notation, axiom, sorry.
-/
import Derived.Test.YtkgpkbclfncnfaaChecked
import GoSem.Claim
import GoSem.ClaimJoined
import GoSem.ClaimMapViews
import Derived.JoinedTies
import Derived.KernelRfl
namespace Go.Proofs.Ytkgpkbclfncnfaa
/- THE CELL 'sum', in the pinned program and in every row, IS THE sha256 OF THE DUMP (.gsa) THAT YtkgpkbclfncnfaaProg.lean LOADS. Nothing in Lean hashes anything: it is a label: what it is worth is what the hold of that sum in a sandbox is worth. -/
noncomputable def Try.pinned : Pinned := { name := "ytkgpkbclfncnfaa", sum := "0de7b6050439ae620f66482f48a3edd8dc0692aab0f3d736acd230075edc47b4", checked := Try.checked }
namespace Rows
def none {H : Type} : Left H := { results := [], args := [] }

/-- 'weftwaylaw30.CorpusAt': WHATEVER THE INPUT: true; the input reads as it did. -/
def corpusAtSpec : ChangeSpec := { name := "corpusAt", fn := fun _ => fun
  | [d] => { results := [.lit (.bool true)], args := [d] }
  | _ => none }
def corpusAtRow : OpenClaim := { program := "ytkgpkbclfncnfaa", sum := "0de7b6050439ae620f66482f48a3edd8dc0692aab0f3d736acd230075edc47b4", func := "weftway/weftwaylaw30.CorpusAt", spec := "corpusAt", apart := false }
def CorpusAtSaid : Prop := corpusAtRow.holds Try.pinned (OpenSpec.ofChange corpusAtSpec)

/-- ITS FALSE NEIGHBOUR: 'it returns false'. Refute it at one input. -/
def corpusAtWrong : ChangeSpec := { name := "corpusAt", fn := fun _ => fun
  | [d] => { results := [.lit (.bool false)], args := [d] }
  | _ => none }
def CorpusAtWrongFalsely : Prop := corpusAtRow.holds Try.pinned (OpenSpec.ofChange corpusAtWrong)

/-- 'weftwaylaw08.TypesKinds': WHATEVER THE INPUT: true; the input reads as it did. -/
def typesKindsSpec : ChangeSpec := { name := "typesKinds", fn := fun _ => fun
  | [d1, d2] => { results := [.lit (.bool true)], args := [d1, d2] }
  | _ => none }
def typesKindsRow : OpenClaim := { program := "ytkgpkbclfncnfaa", sum := "0de7b6050439ae620f66482f48a3edd8dc0692aab0f3d736acd230075edc47b4", func := "weftway/weftwaylaw08.TypesKinds", spec := "typesKinds", unfollowed := true, recurses := true, loops := true, apart := false }
def TypesKindsSaid : Prop := typesKindsRow.holds Try.pinned (OpenSpec.ofChange typesKindsSpec)

/-- ITS FALSE NEIGHBOUR: 'it returns false'. Refute it at one input. -/
def typesKindsWrong : ChangeSpec := { name := "typesKinds", fn := fun _ => fun
  | [d1, d2] => { results := [.lit (.bool false)], args := [d1, d2] }
  | _ => none }
def TypesKindsWrongFalsely : Prop := typesKindsRow.holds Try.pinned (OpenSpec.ofChange typesKindsWrong)

/-- 'weftwaylaw30.CorpusFind': WHATEVER THE INPUT: true; the input reads as it did. -/
def corpusFindSpec : ChangeSpec := { name := "corpusFind", fn := fun _ => fun
  | [d1, d2, d3] => { results := [.lit (.bool true)], args := [d1, d2, d3] }
  | _ => none }
def corpusFindRow : OpenClaim := { program := "ytkgpkbclfncnfaa", sum := "0de7b6050439ae620f66482f48a3edd8dc0692aab0f3d736acd230075edc47b4", func := "weftway/weftwaylaw30.CorpusFind", spec := "corpusFind", apart := false }
def CorpusFindSaid : Prop := corpusFindRow.holds Try.pinned (OpenSpec.ofChange corpusFindSpec)

/-- ITS FALSE NEIGHBOUR: 'it returns false'. Refute it at one input. -/
def corpusFindWrong : ChangeSpec := { name := "corpusFind", fn := fun _ => fun
  | [d1, d2, d3] => { results := [.lit (.bool false)], args := [d1, d2, d3] }
  | _ => none }
def CorpusFindWrongFalsely : Prop := corpusFindRow.holds Try.pinned (OpenSpec.ofChange corpusFindWrong)

/-- 'weftwaylaw06.NamesFind': WHATEVER THE INPUT: true; the input reads as it did. -/
def namesFindSpec : ChangeSpec := { name := "namesFind", fn := fun _ => fun
  | [d1, d2, d3] => { results := [.lit (.bool true)], args := [d1, d2, d3] }
  | _ => none }
def namesFindRow : OpenClaim := { program := "ytkgpkbclfncnfaa", sum := "0de7b6050439ae620f66482f48a3edd8dc0692aab0f3d736acd230075edc47b4", func := "weftway/weftwaylaw06.NamesFind", spec := "namesFind", unfollowed := true, recurses := true, loops := true, apart := false }
def NamesFindSaid : Prop := namesFindRow.holds Try.pinned (OpenSpec.ofChange namesFindSpec)

/-- ITS FALSE NEIGHBOUR: 'it returns false'. Refute it at one input. -/
def namesFindWrong : ChangeSpec := { name := "namesFind", fn := fun _ => fun
  | [d1, d2, d3] => { results := [.lit (.bool false)], args := [d1, d2, d3] }
  | _ => none }
def NamesFindWrongFalsely : Prop := namesFindRow.holds Try.pinned (OpenSpec.ofChange namesFindWrong)

/- THE SECOND FORM. 'bulk': how many values and letters a reading holds, each counted each time it is reached (what is shared counts as often as it is met; a slice's spare places count too). A statement '..UptoSaid' is the law's where the arguments, and the package variables that the reading takes, are together of bulk at most 1048576: NARROWER than '..Said'. Prove '..Said' where nothing that the law and all that it calls make is longer than what came in: it says more and counts as full. Else prove '..UptoSaid'. A law counts once. -/
mutual
def uptoBulk {H : Type} : DataW H → Nat
  | .lit (.string bytes) => bytes.length + 1
  | .lit _ => 1
  | .nil => 1
  | .ptr d => uptoBulk d + 1
  | .slice elems spare => uptoBulkAll elems + uptoBulkAll spare + 1
  | .agg parts => uptoBulkAll parts + 1
  | .iface _ d => uptoBulk d + 1
  | .map entries => uptoBulkEntries entries + 1
  | .held _ => 1
def uptoBulkAll {H : Type} : List (DataW H) → Nat
  | [] => 0
  | d :: r => uptoBulk d + uptoBulkAll r
def uptoBulkEntries {H : Type} : List (Lit × DataW H) → Nat
  | [] => 0
  | x :: r => uptoBulkEntry x + uptoBulkEntries r
def uptoBulkEntry {H : Type} : Lit × DataW H → Nat
  | (.string bytes, d) => bytes.length + uptoBulk d + 1
  | (_, d) => uptoBulk d + 1
 end
def uptoSmall : (H : Type) → List (DataW H) → Bool := fun _ ds => decide (uptoBulkAll ds ≤ 1048576)
def OpenSpec.upto (s : _root_.Go.ChangeSpec) : _root_.Go.OpenSpec := { _root_.Go.OpenSpec.ofChange s with cond := some uptoSmall }

/-- 'weftwaylaw30.CorpusAt', WHERE WHAT IT READS IS OF BULK AT MOST 1048576: true; the input reads as it did. -/
def corpusAtUptoRow : OpenClaim := { program := "ytkgpkbclfncnfaa", sum := "0de7b6050439ae620f66482f48a3edd8dc0692aab0f3d736acd230075edc47b4", func := "weftway/weftwaylaw30.CorpusAt", spec := "corpusAt", apart := false, narrowed := true }
def CorpusAtUptoSaid : Prop := corpusAtUptoRow.holds Try.pinned (OpenSpec.upto corpusAtSpec)

/-- 'weftwaylaw08.TypesKinds', WHERE WHAT IT READS IS OF BULK AT MOST 1048576: true; the input reads as it did. -/
def typesKindsUptoRow : OpenClaim := { program := "ytkgpkbclfncnfaa", sum := "0de7b6050439ae620f66482f48a3edd8dc0692aab0f3d736acd230075edc47b4", func := "weftway/weftwaylaw08.TypesKinds", spec := "typesKinds", unfollowed := true, recurses := true, loops := true, apart := false, narrowed := true }
def TypesKindsUptoSaid : Prop := typesKindsUptoRow.holds Try.pinned (OpenSpec.upto typesKindsSpec)

/-- 'weftwaylaw30.CorpusFind', WHERE WHAT IT READS IS OF BULK AT MOST 1048576: true; the input reads as it did. -/
def corpusFindUptoRow : OpenClaim := { program := "ytkgpkbclfncnfaa", sum := "0de7b6050439ae620f66482f48a3edd8dc0692aab0f3d736acd230075edc47b4", func := "weftway/weftwaylaw30.CorpusFind", spec := "corpusFind", apart := false, narrowed := true }
def CorpusFindUptoSaid : Prop := corpusFindUptoRow.holds Try.pinned (OpenSpec.upto corpusFindSpec)

/-- 'weftwaylaw06.NamesFind', WHERE WHAT IT READS IS OF BULK AT MOST 1048576: true; the input reads as it did. -/
def namesFindUptoRow : OpenClaim := { program := "ytkgpkbclfncnfaa", sum := "0de7b6050439ae620f66482f48a3edd8dc0692aab0f3d736acd230075edc47b4", func := "weftway/weftwaylaw06.NamesFind", spec := "namesFind", unfollowed := true, recurses := true, loops := true, apart := false, narrowed := true }
def NamesFindUptoSaid : Prop := namesFindUptoRow.holds Try.pinned (OpenSpec.upto namesFindSpec)

end Rows
end Go.Proofs.Ytkgpkbclfncnfaa
