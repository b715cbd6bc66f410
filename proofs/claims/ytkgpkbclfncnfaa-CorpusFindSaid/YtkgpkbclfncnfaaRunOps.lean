/- A region that does not draw, run by the kernel. -/
import Derived.Test.YtkgpkbclfncnfaaBase
namespace Go.Proofs.Ytkgpkbclfncnfaa
open Go.RowKit
set_option linter.unusedVariables false

/-- operations that yield a value and go on, one behind the other -/
def runOps (P : Program) (ops : Array Oper) : List Nat → Act → World → Option (Act × World)
  | [], a, w => some (a, w)
  | i :: rest, a, w =>
    match ops[i]? with
    | none => runOps P ops rest a w
    | some o =>
      if Region.wanted o (yielded ops a.tmps) then
        match (execOp a.eval o).run P w with
        | .ok (.value v) w' => runOps P ops rest (a.put o.dst v) w'
        | .ok .skip w' => runOps P ops rest (a.put o.dst undef) w'
        | _ => none
      else runOps P ops rest (a.put o.dst undef) w

theorem wpOps_app {P : Program} {ops : Array Oper} {Q : Exit → Act → World → Prop} (more : List Nat) : ∀ (l : List Nat) (a : Act) (w : World) (a' : Act) (w' : World),
    runOps P ops l a w = some (a', w') → wpOps P ops Q more a' w' → wpOps P ops Q (l ++ more) a w
  | [], a, w, a', w', h, hq => by
    simp only [runOps, Option.some.injEq, Prod.mk.injEq] at h
    obtain ⟨rfl, rfl⟩ := h
    exact hq
  | i :: rest, a, w, a', w', h, hq => by
    unfold runOps at h
    rw [List.cons_append]
    unfold wpOps
    split at h
    · rename_i e
      rw [e]
      exact wpOps_app more rest a w a' w' h hq
    · rename_i o e
      rw [e]
      simp only
      split at h
      · rename_i hw
        rw [if_pos hw]
        refine .inl ?_
        unfold Oper.wp
        split at h
        · rename_i v w1 hr
          rw [hr]
          exact wpOps_app more rest _ _ a' w' h hq
        · rename_i w1 hr
          rw [hr]
          exact wpOps_app more rest _ _ a' w' h hq
        · cases h
      · rename_i hw
        rw [if_neg hw]
        exact wpOps_app more rest _ _ a' w' h hq

theorem wpOps_of_run {P : Program} {ops : Array Oper} {Q : Exit → Act → World → Prop} (l : List Nat) (a : Act) (w : World) (a' : Act) (w' : World)
    (h : runOps P ops l a w = some (a', w')) (hq : Q .normal a' w') : wpOps P ops Q l a w := by
  have := wpOps_app (Q := Q) [] l a w a' w' h hq
  rwa [List.append_nil] at this
theorem wpOps_one {P : Program} {ops : Array Oper} {Q : Exit → Act → World → Prop} {i : Nat} {rest : List Nat} {a : Act} {w : World} (o : Oper) (ho : ops[i]? = some o) (hw : Region.wanted o (yielded ops a.tmps) = true)
    (h : ∀ K : Act → World → Prop, (∀ a w, wpOps P ops Q rest a w → K a w) → o.wp P a w K Q) : wpOps P ops Q (i :: rest) a w := by
  unfold wpOps
  rw [ho]
  simp only [hw, if_true]
  exact .inl (h _ fun _ _ h => h)
/-- a call of a function that returns -/
theorem wp_call {P : Program} {o : Oper} {a : Act} {w : World} {K : Act → World → Prop} {Q : Exit → Act → World → Prop} (f : FuncId) (args : Array Value) (ho : (execOp a.eval o).run P w = .ok (.enter f args) w)
    (h : Calls P f args w fun e w' => ∃ v, e = .returned v ∧ K (a.put o.dst v) w') : o.wp P a w K Q := by
  unfold Oper.wp
  rw [ho, Oper.upon_enter]
  refine h.mono ?_
  rintro e w' ⟨v, rfl, h⟩
  exact h

theorem wp_region_run {P : Program} {id : Nat} {ops : Array Oper} {Q : Exit → Act → World → Prop} {a : Act} {w : World} (a' : Act) (w' : World)
    (h : runOps P ops (List.range ops.size) a w = some (a', w')) (hq : Q .normal a' w') : (Code.region id ops false).wp P Q a w :=
  wp_region (wpOps_of_run _ a w a' w' h hq)
end Go.Proofs.Ytkgpkbclfncnfaa
