/- autos.never, asks in the logic over abstract values. No statement is proved here. -/
import Derived.Test.YtnblhbpfgdjnkaaGreatDoorAuP
import Derived.Test.YtnblhbpfgdjnkaaGreatDoorMTy
namespace Go.Proofs.YtnblhbpfgdjnkaaGreatDoor
open Go.RowKit
attribute [local simp] List.replicate List.range List.range.loop resA resOne retA
set_option linter.unusedVariables false
set_option linter.unusedSimpArgs false
abbrev qCs (t : Ty) (b : Bool) : List AV := [U t.kind, Sg t.name, .p (.sl 3 (t.args.map Ty.enc)), B b]
abbrev qV (t : Ty) (b : Bool) : AV := .agg (qCs t b)
set_option maxRecDepth 100000 in
set_option maxHeartbeats 4000000 in
theorem neverC (t : Ty) (b : Bool) (S : ASt) : ADet Tryz.prog 81 [qV t b] S (B (neverQ t b)) S := by
  unfold neverQ
  refine ADet.intro mixed Tryz.call81 Tryz.func81 rfl ?_
  by_cases h7 : t.kind = 7
  · simp [Tryz.ntmps81, h7]
  have h7' : (t.kind == 7) = false := by simpa using h7
  cases b with
  | false => simp [Tryz.ntmps81, h7', h7]
  | true =>
    by_cases h6 : t.kind = 6
    · simp [Tryz.ntmps81, h6]
    · have h6' : (t.kind == 6) = false := by simpa using h6
      simp [Tryz.ntmps81, h7', h7, h6', h6]
set_option maxRecDepth 100000 in
theorem asks2C (p : List It) (t : Ty) (b : Bool) (a0 a1 : AObj) (S : ASt) : ADet Tryz.prog 82 [qV t b, .agg [.p (prog p)]] ([a0, a1] :: S) (.fn (.func 126) [] [.ptr 0 2 0, .ptr 0 3 0])
    ([a0, a1, .cells (qCs t b) 90, .cells [.p (prog p)] 24] :: S) := by
  refine ADet.flat mixed Tryz.call82 Tryz.func82 rfl ?_
  simp [Tryz.ntmps82]
set_option maxRecDepth 100000 in
theorem asks3C (p : List It) (t : Ty) (b : Bool) (a0 a1 a2 : AObj) (S : ASt) : ADet Tryz.prog 82 [qV t b, .agg [.p (prog p)]] ([a0, a1, a2] :: S) (.fn (.func 126) [] [.ptr 0 3 0, .ptr 0 4 0])
    ([a0, a1, a2, .cells (qCs t b) 90, .cells [.p (prog p)] 24] :: S) := by
  refine ADet.flat mixed Tryz.call82 Tryz.func82 rfl ?_
  simp [Tryz.ntmps82]
end Go.Proofs.YtnblhbpfgdjnkaaGreatDoor
