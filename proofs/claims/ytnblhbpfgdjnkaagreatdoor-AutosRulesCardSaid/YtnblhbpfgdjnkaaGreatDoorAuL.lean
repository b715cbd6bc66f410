/- weftwaylaw09.ruled in the logic over abstract values. No statement is proved here. -/
import Derived.Test.YtnblhbpfgdjnkaaGreatDoorAuK
import Derived.Test.YtnblhbpfgdjnkaaGreatDoorAuE
namespace Go.Proofs.YtnblhbpfgdjnkaaGreatDoor
open Go.RowKit
attribute [local simp] List.replicate List.range List.range.loop resA resOne retA AV.cuts AV.cut AObj.cut trim wkR wkT wkL wkN wkNR wkNL wkM wkMR wkML virtL virtO virt_get markL markO markR_get rowA awpI_nil awpI_cons List.forall_mem_cons List.contains_cons List.contains_nil List.find? nextD_eq awpD_nil awpD_cons LCp LCl refL
set_option linter.unusedVariables false
set_option linter.unusedSimpArgs false
def ruleA (p : List It) (b : Bool) (g : Fi) : Bool := decide (g.type.kind = 0) || sA p g.type b
theorem take_all {α : Type} (f : α → Bool) (l : List α) {q : Nat} (h : q < l.length) : (l.take (q + 1)).all f = ((l.take q).all f && f l[q]) := by
  rw [List.take_add_one, List.all_append, List.getElem?_eq_getElem h]; simp
set_option maxRecDepth 100000 in
set_option maxHeartbeats 32000000 in
theorem ruledNamedC (p : List It) (hp : PrSm p) (hw : prWhole p = true) (t : Ty) (ht : TySm t) (hwt : t.whole 40 = true) (h4 : t.kind = 4) (S : ASt) : ADet Tryz.prog 24 [.agg [.p (prog p)], tyV t] S (B true) S := by
  have sC := fun S => sendC p hp t ht 2600 _ (sA_eq hw t false) S
  have yC := fun S => syncC p hp t ht 2600 _ (sA_eq hw t true) S
  have e1 := sA_named hw hwt h4 false
  have e2 := sA_named hw hwt h4 true
  have hlen := fields_sm hp t.name
  have hfs : ∀ g ∈ (fieldsT p t.name).getD [], TySm g.type := fun g hg => asks_sm hp ht (b := false) (c := false) (by unfold asksL; rw [if_pos h4]; exact List.mem_map.2 ⟨g, hg, rfl⟩)
  obtain ⟨l, ok, fC, hlen, hfs, e1, e2⟩ : ∃ (l : List Fi) (ok : Bool), (∀ S, ADet Tryz.prog 48 [.agg [.p (prog p)], Sg t.name] S (.tup [.p (.sl 4 (l.map Fi.enc)), B ok]) S) ∧ l.length ≤ 20000 ∧ (∀ g ∈ l, TySm g.type) ∧ sA p t false = l.all (ruleA p false) ∧ sA p t true = l.all (ruleA p true) := by
    have fC := fun S => tabFieldsC p hp t.name S
    cases hF : fieldsT p t.name with
    | none =>
      rw [hF] at fC hlen hfs e1 e2
      exact ⟨[], false, fun S => ADet.lessTu (.cons (.p (.nil 4)) (.refl _)) (fC S), by simp, fun g hg => by simp at hg, e1, e2⟩
    | some l =>
      rw [hF] at fC hlen hfs e1 e2
      exact ⟨l, true, fC, hlen, hfs, e1, e2⟩
  rw [e1] at sC
  rw [e2] at yC
  refine ADet.intro mixed Tryz.call24 Tryz.func24 rfl ?_
  simp [Tryz.ntmps24]
  refine awp_draw [(3, 2), (4, 2)] (by kernel_rfl) (by kernel_rfl) ?_
  simp
  refine ⟨_, _, sC _, ?_⟩
  simp
  refine ⟨_, _, yC _, ?_⟩
  simp [h4]
  refine ⟨_, _, fC _, ?_⟩
  simp
  refine awp_loop (fun q : Nat => q ≤ l.length) (fun q => ([.any, .any, .ptr 0 0 0, .ptr 0 1 0, .any, B (l.all (ruleA p false)), B (l.all (ruleA p true)), .p (.sl 4 (l.map Fi.enc)), .any, B ((l.take q).all (ruleA p false)), B ((l.take q).all (ruleA p true)), I q] ++ List.replicate 140 .any)) (fun q => [.cells [.p (prog p)] 24, .cells [U 4, Sg t.name, .p (.sl 3 (t.args.map Ty.enc))] 27] :: S) (fun q => l.length - q) 0 (Nat.zero_le _) ?_ ?_ ?_
  · simp
  · simp
  intro q hq
  by_cases hlt : q < l.length
  · have hlt' : (q : Int) < (l.length : Int) := by omega
    have hwr := wrap_succ hlt (by unfold maxLen; omega)
    have t1 := take_all (ruleA p false) l hlt
    have t2 := take_all (ruleA p true) l hlt
    have hgs := hfs _ (List.getElem_mem hlt)
    generalize he : l[q] = g at *
    have gS := fun S => sendC p hp g.type hgs 2600 _ (sA_eq hw g.type false) S
    have gY := fun S => syncC p hp g.type hgs 2600 _ (sA_eq hw g.type true) S
    generalize ha : (l.take q).all (ruleA p false) = a at *
    generalize hb : (l.take q).all (ruleA p true) = b at *
    by_cases h0 : g.type.kind = 0
    · have r1 : ruleA p false g = true := by unfold ruleA; simp [h0]
      have r2 : ruleA p true g = true := by unfold ruleA; simp [h0]
      rw [r1, Bool.and_true] at t1
      rw [r2, Bool.and_true] at t2
      simp [hlt, hlt', he, Fi.enc, h0]
      exact ⟨q + 1, hlt, by omega, by first | exact t1.symm | exact t1 | simp [t1] | simpa using t1, by first | exact t2.symm | exact t2 | simp [t2] | simpa using t2, by simp [hwr]⟩
    · have h0' : (g.type.kind != 0) = true := by simpa using h0
      have r1 : ruleA p false g = sA p g.type false := by unfold ruleA; simp [h0]
      have r2 : ruleA p true g = sA p g.type true := by unfold ruleA; simp [h0]
      rw [r1] at t1
      rw [r2] at t2
      simp [hlt, hlt', he, Fi.enc, h0']
      refine awp_draw [] (by kernel_rfl) (by kernel_rfl) ?_
      cases a with
      | false =>
        simp only [Bool.false_and] at t1
        simp [hlt, hlt', he, Fi.enc]
        refine awp_draw [] (by kernel_rfl) (by kernel_rfl) ?_
        cases b with
        | false =>
          simp only [Bool.false_and] at t2
          simp [hlt, hlt', he, Fi.enc]
          exact ⟨q + 1, hlt, by omega, by first | exact t1.symm | exact t1 | simp [t1] | simpa using t1, by first | exact t2.symm | exact t2 | simp [t2] | simpa using t2, by simp [hwr]⟩
        | true =>
          simp only [Bool.true_and] at t2
          simp [hlt, hlt', he, Fi.enc]
          refine ⟨_, _, gY _, ?_⟩
          simp [hlt, hlt', he, Fi.enc]
          exact ⟨q + 1, hlt, by omega, by first | exact t1.symm | exact t1 | simp [t1] | simpa using t1, by first | exact t2.symm | exact t2 | simp [t2] | simpa using t2, by simp [hwr]⟩
      | true =>
        simp only [Bool.true_and] at t1
        simp [hlt, hlt', he, Fi.enc]
        refine ⟨_, _, gS _, ?_⟩
        simp [hlt, hlt', he, Fi.enc]
        refine awp_draw [] (by kernel_rfl) (by kernel_rfl) ?_
        cases b with
        | false =>
          simp only [Bool.false_and] at t2
          simp [hlt, hlt', he, Fi.enc]
          exact ⟨q + 1, hlt, by omega, by first | exact t1.symm | exact t1 | simp [t1] | simpa using t1, by first | exact t2.symm | exact t2 | simp [t2] | simpa using t2, by simp [hwr]⟩
        | true =>
          simp only [Bool.true_and] at t2
          simp [hlt, hlt', he, Fi.enc]
          refine ⟨_, _, gY _, ?_⟩
          simp [hlt, hlt', he, Fi.enc]
          exact ⟨q + 1, hlt, by omega, by first | exact t1.symm | exact t1 | simp [t1] | simpa using t1, by first | exact t2.symm | exact t2 | simp [t2] | simpa using t2, by simp [hwr]⟩
  · have hlt' : ¬ (q : Int) < (l.length : Int) := by omega
    have hql : l.take q = l := List.take_of_length_le (by omega)
    simp [hlt', hql]
end Go.Proofs.YtnblhbpfgdjnkaaGreatDoor
