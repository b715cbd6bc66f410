/- What is whole: a statement: tree's function in the logic over abstract values (printed by a program of my own). No statement is proved here. -/
import Derived.Test.YtldglgdejmljnaaGreatDoorNUa
import Derived.Test.YtldglgdejmljnaaGreatDoorNUa
import Derived.Test.YtldglgdejmljnaaGreatDoorNUa
import Derived.Test.YtldglgdejmljnaaGreatDoorNUa
import Derived.Test.YtldglgdejmljnaaGreatDoorNUb
import Derived.Test.YtldglgdejmljnaaGreatDoorNUb
import Derived.Test.YtldglgdejmljnaaGreatDoorNUb
namespace Go.Proofs.YtldglgdejmljnaaGreatDoor
open Go.RowKit
attribute [local simp] List.replicate List.range List.range.loop resA resOne retA
set_option linter.unusedVariables false
set_option linter.unusedSimpArgs false

/-- the kinds of statements, by what they have: a type, a place, a body, another one, arms -/
theorem fm_cls (op : Int) (h : fmOk op = true) : (fmTyped op = true ∧ fmPlaced op = false ∧ fmBody op = false ∧ fmElse op = false ∧ fmArms op = false) ∨ (fmTyped op = false ∧ fmPlaced op = true ∧ fmBody op = false ∧ fmElse op = false ∧ fmArms op = false) ∨
    (fmTyped op = false ∧ fmPlaced op = true ∧ fmBody op = true ∧ fmElse op = false ∧ fmArms op = false) ∨ (fmTyped op = false ∧ fmPlaced op = false ∧ fmBody op = true ∧ fmElse op = true ∧ fmArms op = false) ∨
    (fmTyped op = false ∧ fmPlaced op = false ∧ fmBody op = false ∧ fmElse op = false ∧ fmArms op = true) ∨ (fmTyped op = false ∧ fmPlaced op = false ∧ fmBody op = true ∧ fmElse op = false ∧ fmArms op = false) ∨
    (fmTyped op = false ∧ fmPlaced op = false ∧ fmBody op = false ∧ fmElse op = false ∧ fmArms op = false) := by
  unfold fmOk at h
  simp only [Bool.and_eq_true, decide_eq_true_eq] at h
  have hop : op = 1 ∨ op = 2 ∨ op = 3 ∨ op = 4 ∨ op = 5 ∨ op = 6 ∨ op = 7 ∨ op = 8 ∨ op = 9 ∨ op = 10 ∨ op = 11 ∨ op = 12 ∨ op = 13 := by omega
  rcases hop with rfl | rfl | rfl | rfl | rfl | rfl | rfl | rfl | rfl | rfl | rfl | rfl | rfl <;> decide
set_option maxRecDepth 100000 in
set_option maxHeartbeats 1000000 in
theorem wholeStmt0 (s : St) (d : Int) (S : ASt) (h : ¬ 1 ≤ d ∨ fmOk s.op = false) : ADet Tryz.prog 119 [stmV s, I d] S (B (s.whole d)) S := by
  have e : s.whole d = false := by
    rw [stWhole_eq]
    rcases h with h | h <;> simp [stHead, h]
  rw [e]
  refine ADet.intro mixed Tryz.call119 Tryz.func119 rfl ?_
  simp [Tryz.ntmps119]
  refine ⟨_, _, formOfC s _, ?_⟩
  by_cases h0 : d < 1
  · simp [h0, fmV]
  · have ho : fmOk s.op = false := h.resolve_left (by omega)
    simp [h0, ho, fmV]
theorem wholeStC : ∀ (s : St), StSm s → WSC s := by
  refine St.ind fun s ih1 ih2 ih3 hsm d S hd1 hd2 => ?_
  have hsm' := hsm
  obtain ⟨_, _, _, _, _, _, _, _, _, _, hbs, hes, has, hab⟩ := hsm'
  have i1 : ∀ x ∈ s.body, WSC x := fun x hx => ih1 x hx (hbs x hx)
  have i2 : ∀ x ∈ s.els, WSC x := fun x hx => ih2 x hx (hes x hx)
  have i3 : ∀ a ∈ s.arms, ∀ x ∈ a.body, WSC x := fun a ha x hx => ih3 a ha x hx (hab a ha x hx)
  by_cases h0 : 1 ≤ d
  · cases ho : fmOk s.op with
    | false => exact wholeStmt0 s d S (.inr ho)
    | true =>
      rcases fm_cls s.op ho with ⟨a, b, c, e, f⟩ | ⟨a, b, c, e, f⟩ | ⟨a, b, c, e, f⟩ | ⟨a, b, c, e, f⟩ | ⟨a, b, c, e, f⟩ | ⟨a, b, c, e, f⟩ | ⟨a, b, c, e, f⟩
      · exact wholeStmtA s hsm i1 i2 i3 d S hd1 hd2 h0 ho a b c e f
      · exact wholeStmtB s hsm i1 i2 i3 d S hd1 hd2 h0 ho a b c e f
      · exact wholeStmtC s hsm i1 i2 i3 d S hd1 hd2 h0 ho a b c e f
      · exact wholeStmtD s hsm i1 i2 i3 d S hd1 hd2 h0 ho a b c e f
      · exact wholeStmtE s hsm i1 i2 i3 d S hd1 hd2 h0 ho a b c e f
      · exact wholeStmtF s hsm i1 i2 i3 d S hd1 hd2 h0 ho a b c e f
      · exact wholeStmtG s hsm i1 i2 i3 d S hd1 hd2 h0 ho a b c e f
  · exact wholeStmt0 s d S (.inl h0)
end Go.Proofs.YtldglgdejmljnaaGreatDoor
