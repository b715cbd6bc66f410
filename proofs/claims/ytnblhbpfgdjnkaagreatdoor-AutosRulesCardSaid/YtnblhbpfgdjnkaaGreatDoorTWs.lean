/- What is whole: statements, the small parts: tree's functions in the logic over abstract values. No statement is proved here. -/
import Derived.Test.YtnblhbpfgdjnkaaGreatDoorTWh
namespace Go.Proofs.YtnblhbpfgdjnkaaGreatDoor
open Go.RowKit
attribute [local simp] List.replicate List.range List.range.loop resA resOne retA virtL virtO virt_get markL markO markR_get rowA awpI_nil awpI_cons List.forall_mem_cons List.contains_cons List.contains_nil List.find? nextD_eq awpD_nil awpD_cons LCp LCl refL
set_option linter.unusedVariables false
set_option linter.unusedSimpArgs false

def fnN (op : Int) : Nat := if op = 1 ∨ op = 5 ∨ op = 8 ∨ op = 11 ∨ op = 12 then 116 else if op = 2 then 105 else 195
def fnS (op : Int) : Nat := if op = 8 then 105 else if op = 12 then 116 else 195
/-- what a statement may have -/
def fmV (op : Int) (n : Nat) : List AV := [I (fmNames op), I (fmExprs op n), B (fmTyped op), B (fmPlaced op), B (fmBody op), B (fmElse op), B (fmArms op), B (fmLent op), .fn (.func (fnN op)) [] [], .fn (.func (fnS op)) [] []]

def WSC (s : St) : Prop := ∀ (d : Int) (S : ASt), -1 ≤ d → d ≤ 1000 → ADet Tryz.prog 121 [stmV s, I d] S (B (s.whole d)) S
end Go.Proofs.YtnblhbpfgdjnkaaGreatDoor
