/- Truths compared in a region. No statement is proved here. -/
import Derived.Test.YtldglgdejmljnaaGreatDoorAlDrS
namespace Go.Proofs.YtldglgdejmljnaaGreatDoor
open Go.RowKit
set_option linter.unusedVariables false

theorem run_bneq (a b : Bool) (x y : Operand) : pureRun Tryz.prog (do eqGuard .neq 4 x y (.bool a) (.bool b); binOp .neq 4 (.bool a) (.bool b) : Sem Value) = some (.bool (a != b)) := by
  cases a <;> cases b <;> kernel_rfl
theorem pureRun_map {P : Program} {α β : Type} (f : α → β) (s : Sem α) (a : α) (h : pureRun P s = some a) : pureRun P (f <$> s) = some (f a) := by
  induction s with
  | pure b => simp [pureRun] at h; subst h; rfl
  | program k ih => exact ih P (by simpa [pureRun] using h)
  | mark m k ih => exact ih (by simpa [pureRun] using h)
  | _ => simp [pureRun] at h
theorem genP_bneq {fr : List AV} {o : Oper} {x y : Operand} {k : TypeId} (a b : Bool) (ho : o.op = .binOp .neq 4 x y k) (hx : evA fr x = B a) (hy : evA fr y = B b) : genP Tryz.prog o fr = some (B (a != b)) := by
  obtain ⟨dst, op, ty, pos, after, guard⟩ := o
  simp only at ho
  subst ho
  have h1 : (noSel (.binOp .neq 4 x y k) && allAtoms fr (Op.operands (.binOp .neq 4 x y k)).toList) = true := by
    show (true && allAtoms fr [x, y]) = true
    rw [Bool.true_and, allAtoms, allAtoms, allAtoms, hx, hy]
    rfl
  have h2 : pureRun Tryz.prog (execOp (fun z => (atomV (evA fr z)).getD undef) ⟨dst, .binOp .neq 4 x y k, ty, pos, after, guard⟩) = some (.value (.bool (a != b))) := by
    have e1 : (atomV (evA fr x)).getD undef = .bool a := by rw [hx]; rfl
    have e2 : (atomV (evA fr y)).getD undef = .bool b := by rw [hy]; rfl
    unfold execOp
    simp only [e1, e2]
    exact pureRun_map _ _ _ (run_bneq a b x y)
  unfold genP
  simp only
  rw [if_pos h1, h2]
  rfl
/-- (kept shut) -/
noncomputable def genK (o : Oper) (fr : List AV) : Option AV := genP Tryz.prog o fr
@[simp] theorem genP_neq (dst : Option Tmp) (x y : Operand) (k ty : TypeId) (pos : String) (after : Array Edge) (guard : Option (Nat × Bool)) (fr : List AV) :
    genP Tryz.prog ⟨dst, .binOp .neq 4 x y k, ty, pos, after, guard⟩ fr = (match evA fr x, evA fr y with | .p (.v (.bool a)), .p (.v (.bool b)) => some (B (a != b)) | _, _ => genK ⟨dst, .binOp .neq 4 x y k, ty, pos, after, guard⟩ fr) := by
  split
  · rename_i a b hx hy
    exact genP_bneq a b rfl hx hy
  · rfl
end Go.Proofs.YtldglgdejmljnaaGreatDoor
