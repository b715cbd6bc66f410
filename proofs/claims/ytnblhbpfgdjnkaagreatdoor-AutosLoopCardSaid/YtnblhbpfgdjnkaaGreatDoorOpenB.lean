/- An argument that is a list of bytes, opened. No statement is proved here. -/
import Derived.Test.YtnblhbpfgdjnkaaGreatDoorMOpen
import Derived.Test.YtnblhbpfgdjnkaaGreatDoorAuS
import Derived.WideShapes
namespace Go.Proofs.YtnblhbpfgdjnkaaGreatDoor
open Go.ChangeShapes Go.WideShapes Go.ChangeAt Go.RowKit
set_option linter.unusedVariables false
def RdU8 (k : Int) (f : Nat → Value) : Prop := f 0 = .int .u8 k ∧ 0 ≤ k ∧ k ≤ 255
set_option maxRecDepth 100000 in
theorem open_bytes {H : Type} {enc : TypeId × Value → H} {w : World} {sp : Nat → Bool} {r : Reach} {b0 : Nat} {v : Value} {d : DataW H} {p : List MemPlace} (hv : Value.okWide Tryz.prog w r b0 57 v) (ht : DataW.Trod enc Tryz.prog w 0 sp true 57 v d p)
    (hfr : ∀ b o, MemPlace.cell b o ∈ p → w.frozen? ⟨b, o, none⟩ = false) : ∃ l : List Int, RdSl w Any 1 RdU8 l v := by
  obtain ⟨a, len, cap, rfl⟩ := okWide_slice Tryz.underlying57 hv
  obtain ⟨fuel, ht⟩ := ht
  cases fuel with
  | zero => simp [DataW.trod] at ht
  | succ n =>
    exact opens_slice (N := n) (R := RdU8) Tryz.underlying57 (by kernel_rfl) (by omega) (opens_u8 (N := n) Tryz.underlying5) (n + 1) (Nat.le_refl _) (fun _ => .slice a len cap) (d, p) ht hfr
theorem readable_bytes : Tryz.prog.readableRec 57 = true ∧ 57 < Tryz.prog.types.size := ⟨by kernel_rfl, of_decide_eq_true (by kernel_rfl)⟩
theorem rp_bys {w : World} {S : Nat → Prop} {l : List Int} {v : Value} (h : RdSl w S 1 RdU8 l v) : RP (allOf w) (bys l) v :=
  rp_sl (enc := fun k => [pU k]) h (fun x => rfl) (fun x _ f hx => rdp_cons (rp_v hx.1 rfl) (rdp_nil _ _))
theorem bys_in {w : World} {S : Nat → Prop} {l : List Int} {v : Value} (h : RdSl w S 1 RdU8 l v) : (∀ k ∈ l, 0 ≤ k ∧ k ≤ 255) ∧ l.length ≤ maxLen := by
  obtain ⟨A, cap, rfl, hl, hc, hn, hel⟩ := h
  refine ⟨fun k hk => ?_, Nat.le_trans hl hc⟩
  obtain ⟨j, hj, rfl⟩ := List.getElem_of_mem hk
  obtain ⟨b, off, _, _, f, hR, _⟩ := hel j _ (List.getElem?_eq_getElem hj)
  exact hR.2
end Go.Proofs.YtnblhbpfgdjnkaaGreatDoor
