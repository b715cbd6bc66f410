/- The rest of a division. No statement is proved here. -/
import Derived.Test.YtnblhbpfgdjnkaaGreatDoorMLt
namespace Go.Proofs.YtnblhbpfgdjnkaaGreatDoor
open Go.RowKit
set_option linter.unusedVariables false

theorem genP_rem0 {P : Program} {fr : List AV} {o : Oper} {x y : Operand} {T k : TypeId} {kk : IntKind} {a b : Int} (hb : b ≠ 0) (ho : o.op = .binOp .rem T x y k) (hx : evA fr x = .p (.v (.int kk a))) (hy : evA fr y = .p (.v (.int kk b))) : genP P o fr = some (.p (.v (.int kk (a.tmod b)))) := by
  obtain ⟨dst, op, ty, pos, after, guard⟩ := o
  simp only at ho
  subst ho
  have h1 : (noSel (.binOp .rem T x y k) && allAtoms fr (Op.operands (.binOp .rem T x y k)).toList) = true := by
    show (true && allAtoms fr [x, y]) = true
    rw [Bool.true_and, allAtoms, allAtoms, allAtoms, hx, hy]
    rfl
  have h0 : pureRun P (do eqGuard .rem T x y (.int kk a) (.int kk b); binOp .rem T (.int kk a) (.int kk b) : Sem Value) = some (.int kk (a.tmod b)) := by
    have e : (do eqGuard .rem T x y (.int kk a) (.int kk b); binOp .rem T (.int kk a) (.int kk b) : Sem Value) = pure (.int kk (a.tmod b)) := by
      simp [eqGuard, binOp, Op.intDiv, hb]
    rw [e]
    rfl
  have h2 : pureRun P (execOp (fun z => (atomV (evA fr z)).getD undef) ⟨dst, .binOp .rem T x y k, ty, pos, after, guard⟩) = some (.value (.int kk (a.tmod b))) := by
    have e1 : (atomV (evA fr x)).getD undef = .int kk a := by rw [hx]; rfl
    have e2 : (atomV (evA fr y)).getD undef = .int kk b := by rw [hy]; rfl
    unfold execOp
    simp only [e1, e2]
    exact pureRun_map _ _ _ h0
  unfold genP
  simp only
  rw [if_pos h1, h2]
  rfl
/-- (kept shut) -/
noncomputable def genR (P : Program) (o : Oper) (fr : List AV) : Option AV := genP P o fr
@[simp] theorem genP_rem {P : Program} (dst : Option Tmp) (x y : Operand) (T k ty : TypeId) (pos : String) (after : Array Edge) (guard : Option (Nat × Bool)) (fr : List AV) :
    genP P ⟨dst, .binOp .rem T x y k, ty, pos, after, guard⟩ fr = (match evA fr x, evA fr y with | .p (.v (.int k1 a)), .p (.v (.int k2 b)) => if k1 = k2 ∧ b ≠ 0 then some (.p (.v (.int k1 (a.tmod b)))) else genR P ⟨dst, .binOp .rem T x y k, ty, pos, after, guard⟩ fr | _, _ => genR P ⟨dst, .binOp .rem T x y k, ty, pos, after, guard⟩ fr) := by
  split
  · rename_i k1 a k2 b hx hy
    split
    · rename_i h
      obtain ⟨rfl, hb⟩ := h
      exact genP_rem0 hb rfl hx hy
    · rfl
  · rfl
end Go.Proofs.YtnblhbpfgdjnkaaGreatDoor
