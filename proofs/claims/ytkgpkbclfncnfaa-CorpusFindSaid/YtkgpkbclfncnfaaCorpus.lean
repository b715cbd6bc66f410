/- The two tables. -/
import Derived.Test.YtkgpkbclfncnfaaRows
import Derived.Test.YtkgpkbclfncnfaaRunOps
import Derived.Deep.WholeRow
namespace Go.Proofs.Ytkgpkbclfncnfaa
open Go.RowKit
set_option linter.unusedVariables false

/-- the operations of the n-th region of a body whose regions stand one behind the other -/
def regOps : Code → Array Oper
  | .region _ ops _ => ops
  | _ => #[]
def seqAt : Nat → Code → Code
  | 0, .seq x _ => x
  | 0, c => c
  | n + 1, .seq _ y => seqAt n y
  | _ + 1, c => c
def endCells : Option (Act × World) → Array Value
  | some (_, w) => match w.heap.toList.getLast? with
    | some (.cells cs _ _) => cs
    | _ => #[]
  | none => #[]
def endTmps : Option (Act × World) → Array Value
  | some (a, _) => a.tmps
  | none => #[]
def aggCells : Option Value → Array Value
  | some (.agg cs) => cs
  | _ => #[]
noncomputable def rowsBody : Code := (Try.f7.body).getD .skip
noncomputable def rowsOps : Array Oper := regOps (seqAt 1 rowsBody)
noncomputable def rowsAct0 : Act := ⟨#[.slice none 0 0] ++ Array.replicate 19 undef, []⟩
noncomputable def rowsRun (w : World) : Option (Act × World) := runOps Try.prog rowsOps (List.range 20) rowsAct0 w
/-- the table's cells -/
noncomputable def rowCells : Array Value := endCells (rowsRun (begin Try.prog (fun _ _ => 0) default).world)
noncomputable def rowTmps : Array Value := (endTmps (rowsRun (begin Try.prog (fun _ _ => 0) default).world)).extract 1 19

set_option maxRecDepth 100000 in
theorem rows_any (w : World) : Calls Try.prog 7 #[] w fun e w' => e = .returned (.slice (some ⟨w.heap.size, 0, none⟩) 18 18) ∧ w' = w.alloc (.cells rowCells 30) := by
  refine calls_of_wp Try.func7 (c := .seq (.region 0 (regOps (seqAt 0 rowsBody)) false) (.seq (.region 1 rowsOps false) .ret)) (by kernel_rfl) ?_
  refine wp_seq (wp_region_run rowsAct0 w (by kernel_rfl) (wp_seq (wp_region_run ⟨#[.slice (some ⟨w.heap.size, 0, none⟩) 18 18] ++ rowTmps ++ #[.slice (some ⟨w.heap.size, 0, none⟩) 18 18], []⟩ (w.alloc (.cells rowCells 30)) (by kernel_rfl) (wp_ret ?_))))
  exact ⟨rfl, _, by kernel_rfl, rfl, rfl⟩

noncomputable def allBody : Code := (Try.f24.body).getD .skip
noncomputable def allOps0 : Array Oper := regOps (seqAt 0 allBody)
noncomputable def allOps : Array Oper := regOps (seqAt 1 allBody)
noncomputable def allZero : Array Value := endCells (runOps Try.prog allOps0 [0] ⟨Array.replicate 20 undef, []⟩ (begin Try.prog (fun _ _ => 0) default).world)
noncomputable def allRun (w : World) : Option (Act × World) := runOps Try.prog allOps (List.range 19) ⟨Array.replicate 20 undef, []⟩ w
/-- the table's cells -/
noncomputable def allCells : Array Value := aggCells (endTmps (allRun (begin Try.prog (fun _ _ => 0) default).world))[19]?
noncomputable def allTmps : Array Value := (endTmps (allRun (begin Try.prog (fun _ _ => 0) default).world)).extract 1 20
noncomputable def allAct (w : World) : Act := ⟨#[.pointer (some ⟨w.heap.size, 0, none⟩)] ++ allTmps, []⟩
theorem all_one : allCells.all (·.oneCell') = true := by kernel_rfl
theorem all_size : allCells.size = 144 := by kernel_rfl
theorem zero_size : allZero.size = 144 := by kernel_rfl
theorem info_all : (Try.prog.info? 64).map (·.size) = some 144 := by kernel_rfl

set_option maxRecDepth 100000 in
theorem all_any (w : World) : Calls Try.prog 24 #[] w fun e w' => e = .returned (.agg allCells) ∧ w' = w.alloc (.cells allCells 64) := by
  refine calls_of_wp Try.func24 (c := .seq (.region 0 allOps0 false) (.seq (.region 1 allOps false) .ret)) (by kernel_rfl) ?_
  refine wp_seq (wp_region_run ⟨#[.pointer (some ⟨w.heap.size, 0, none⟩)] ++ Array.replicate 19 undef, []⟩ (w.alloc (.cells allZero 64)) (by kernel_rfl) (wp_seq (wp_region ?_)))
  rw [show allOps.size = 20 by kernel_rfl, show List.range 20 = List.range 19 ++ [19] by decide]
  refine wpOps_app [19] _ _ _ (allAct w) (w.alloc (.cells allZero 64)) (by kernel_rfl) ?_
  obtain ⟨o, ho, hop⟩ : ∃ o, allOps[19]? = some o ∧ (o.op = .store 64 (.tmp 0) (.tmp 19) ∧ o.guard = none ∧ o.dst = none) := ⟨allOps.getD 19 ⟨none, .move (.tmp 0), 0, "", #[], none⟩, by kernel_rfl, by kernel_rfl, by kernel_rfl, by kernel_rfl⟩
  refine wpOps_one o ho (by simp [Region.wanted, hop.2.1]) fun K hK => ?_
  unfold Oper.wp
  have hrun : (execOp (allAct w).eval o).run Try.prog (w.alloc (.cells allZero 64)) = .ok .skip (w.alloc (.cells allCells 64)) := by
    have h0 : (allAct w).eval (.tmp 0) = .pointer (some ⟨w.heap.size, 0, none⟩) := by kernel_rfl
    have h1 : (allAct w).eval (.tmp 19) = .agg allCells := by kernel_rfl
    unfold execOp
    simp only [hop.1, h0, h1, Sem.run_bind, run_storeAt_new w 64 allZero allCells (by rw [all_size]; exact info_all) (by rw [zero_size, all_size]) all_one, Result.andThen_ok, Sem.run_pure]
  rw [hrun, Oper.upon_skip, hop.2.2]
  refine hK _ _ ?_
  refine wp_ret ?_
  refine ⟨rfl, .agg allCells, ?_, rfl, rfl⟩
  have ht : (((allAct w).put none undef).tmps[0]?).getD undef = .pointer (some ⟨w.heap.size, 0, none⟩) := by kernel_rfl
  generalize ((allAct w).put none undef).tmps = T at ht
  have hl := run_loadVar_new (P := Try.prog) w 64 allCells 18 25 Try.underlying64 (by rw [all_size]; exact info_all)
  simp [results, Try.results24, ht, hl, asAddr]
attribute [irreducible] allCells allZero rowCells allTmps rowTmps allAct
end Go.Proofs.Ytkgpkbclfncnfaa
