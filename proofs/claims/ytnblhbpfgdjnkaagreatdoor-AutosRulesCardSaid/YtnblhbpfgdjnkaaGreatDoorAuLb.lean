/- weftwaylaw09.ruled of a type that is no name, in the logic over abstract values. No statement is proved here. -/
import Derived.Test.YtnblhbpfgdjnkaaGreatDoorAuL
namespace Go.Proofs.YtnblhbpfgdjnkaaGreatDoor
open Go.RowKit
attribute [local simp] List.replicate List.range List.range.loop resA resOne retA virtL virtO virt_get markL markO markR_get rowA awpI_nil awpI_cons List.forall_mem_cons List.contains_cons List.contains_nil List.find? nextD_eq awpD_nil awpD_cons LCp LCl refL
set_option linter.unusedVariables false
set_option linter.unusedSimpArgs false
/-- a type's answer by its kind, given its part's answers -/
def ruleR (k : Int) (b a c : Bool) : Bool :=
  if k = 7 then false else if k = 6 then (!b && a) else if k = 8 then (a && c) else if k = 13 then c else if k = 9 ∨ k = 11 ∨ k = 12 then a else if b = true then c else a
theorem sA_ruleR {p : List It} (hp : prWhole p = true) {t x : Ty} (hw : t.whole 40 = true) (h4 : t.kind ≠ 4) (ha : t.args = [x]) (b : Bool) : sA p t b = ruleR t.kind b (sA p x false) (sA p x true) := by
  rw [(sA_one hp hw h4 ha b).2]
  unfold neverQ asksArg ruleR
  by_cases h7 : t.kind = 7
  · simp [h7]
  by_cases h6 : t.kind = 6
  · cases b <;> simp [h6]
  by_cases h8 : t.kind = 8
  · simp [h8]
  by_cases h9 : t.kind = 9 ∨ t.kind = 11 ∨ t.kind = 12
  · have h13 : ¬ t.kind = 13 := by omega
    simp [h7, h6, h8, h9, h13]
  by_cases h13 : t.kind = 13
  · simp [h7, h6, h8, h9, h13]
  · cases b <;> simp [h7, h6, h8, h9, h13]
set_option maxRecDepth 100000 in
set_option maxHeartbeats 32000000 in
theorem ruledC (p : List It) (hp : PrSm p) (hw : prWhole p = true) (t : Ty) (ht : TySm t) (hwt : t.whole 40 = true) (S : ASt) : ADet Tryz.prog 24 [.agg [.p (prog p)], tyV t] S (B true) S := by
  by_cases h4 : t.kind = 4
  · exact ruledNamedC p hp hw t ht hwt h4 S
  have h4' : (t.kind == 4) = false := by simpa using h4
  have sC := fun S => sendC p hp t ht 2600 _ (sA_eq hw t false) S
  have yC := fun S => syncC p hp t ht 2600 _ (sA_eq hw t true) S
  refine ADet.intro mixed Tryz.call24 Tryz.func24 rfl ?_
  rcases ty_cases hwt with ⟨hk, hl⟩ | ⟨hk, _⟩ | ⟨hk, _, _, x, hx, hxw⟩
  · rw [sA_args hw hwt h4 hl false] at sC
    rw [sA_args hw hwt h4 hl true] at yC
    simp [Tryz.ntmps24]
    refine awp_draw [(3, 2), (4, 2)] (by kernel_rfl) (by kernel_rfl) ?_
    simp
    refine ⟨_, _, sC _, ?_⟩
    simp
    refine ⟨_, _, yC _, ?_⟩
    simp [h4', hl]
  · exact absurd hk h4
  have o1 := sA_ruleR hw hwt h4 hx false
  have o2 := sA_ruleR hw hwt h4 hx true
  have hxs : TySm x := by
    obtain ⟨_, _, _, h⟩ := ht
    exact h x (by rw [hx]; exact List.mem_singleton.2 rfl)
  have aC := fun S => sendC p hp x hxs 2600 _ (sA_eq hw x false) S
  have bC := fun S => syncC p hp x hxs 2600 _ (sA_eq hw x true) S
  rw [o1] at sC
  rw [o2] at yC
  clear o1 o2
  generalize sA p x false = a at *
  generalize sA p x true = b at *
  simp [Tryz.ntmps24]
  refine awp_draw [(3, 2), (4, 2)] (by kernel_rfl) (by kernel_rfl) ?_
  simp
  refine ⟨_, _, sC _, ?_⟩
  simp
  refine ⟨_, _, yC _, ?_⟩
  simp [h4', hx]
  refine awp_draw [(6, 5), (8, 5), (10, 5)] (by kernel_rfl) (by kernel_rfl) ?_
  simp [hx, tyEnc]
  refine ⟨_, _, aC _, ?_⟩
  simp [hx, tyEnc]
  refine ⟨_, _, bC _, ?_⟩
  have hkk : t.kind = 5 ∨ t.kind = 6 ∨ t.kind = 7 ∨ t.kind = 8 ∨ t.kind = 9 ∨ t.kind = 11 ∨ t.kind = 12 ∨ t.kind = 13 ∨ t.kind = 14 := by omega
  generalize t.kind = k at *
  rcases hkk with rfl | rfl | rfl | rfl | rfl | rfl | rfl | rfl | rfl <;> cases a <;> cases b <;> simp [ruleR]
end Go.Proofs.YtnblhbpfgdjnkaaGreatDoor
