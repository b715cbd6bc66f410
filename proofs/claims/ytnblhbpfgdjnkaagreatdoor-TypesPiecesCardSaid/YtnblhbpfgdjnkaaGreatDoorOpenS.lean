/- An argument that is a list of texts, opened. No statement is proved here. -/
import Derived.Test.YtnblhbpfgdjnkaaGreatDoorMOpen
import Derived.WideShapes
namespace Go.Proofs.YtnblhbpfgdjnkaaGreatDoor
open Go.ChangeShapes Go.WideShapes Go.ChangeAt Go.RowKit
set_option linter.unusedVariables false
set_option maxRecDepth 100000 in
theorem open_strs {H : Type} {enc : TypeId × Value → H} {w : World} {sp : Nat → Bool} {r : Reach} {b0 : Nat} {v : Value} {d : DataW H} {p : List MemPlace} (hv : Value.okWide Tryz.prog w r b0 28 v) (ht : DataW.Trod enc Tryz.prog w 0 sp true 28 v d p)
    (hfr : ∀ b o, MemPlace.cell b o ∈ p → w.frozen? ⟨b, o, none⟩ = false) : ∃ l : List ByteArray, RdSl w Any 1 RdStr l v := by
  obtain ⟨a, len, cap, rfl⟩ := okWide_slice Tryz.underlying28 hv
  obtain ⟨fuel, ht⟩ := ht
  cases fuel with
  | zero => simp [DataW.trod] at ht
  | succ n =>
    exact opens_slice (N := n) (R := RdStr) Tryz.underlying28 cells_string (by omega) (opens_str (N := n) Tryz.underlying9) (n + 1) (Nat.le_refl _) (fun _ => .slice a len cap) (d, p) ht hfr
theorem readable_strs : Tryz.prog.readableRec 28 = true ∧ 28 < Tryz.prog.types.size := ⟨by kernel_rfl, of_decide_eq_true (by kernel_rfl)⟩
end Go.Proofs.YtnblhbpfgdjnkaaGreatDoor
