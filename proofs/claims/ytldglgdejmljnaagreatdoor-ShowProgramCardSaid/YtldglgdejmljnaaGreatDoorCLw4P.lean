/- weftwaylaw04.ShowProgram in the logic over abstract values: a program has the text that the document says. The row is in a text of its own. -/
import Derived.Test.YtldglgdejmljnaaGreatDoorCSpM
import Derived.Test.YtldglgdejmljnaaGreatDoorCShI
import Derived.Test.YtldglgdejmljnaaGreatDoorCR3W
import Derived.Test.YtldglgdejmljnaaGreatDoorCWhI
import Derived.Test.YtldglgdejmljnaaGreatDoorBCopyS
import Derived.Test.YtldglgdejmljnaaGreatDoorBSame
import Derived.Test.YtldglgdejmljnaaGreatDoorMRoom
namespace Go.Proofs.YtldglgdejmljnaaGreatDoor
open Go.RowKit
attribute [local simp] List.replicate List.range List.range.loop resA resOne retA virtL virtO virt_get List.find? nextD_eq awpD_nil awpD_cons LCp LCl refL
set_option linter.unusedVariables false
set_option linter.unusedSimpArgs false

set_option maxRecDepth 100000 in
set_option maxHeartbeats 1000000 in
theorem showProgramC (p : List It) (hsm : PrSm p) (hr : ∀ x ∈ p, ItRg x) (hb : tsum (fun x => tl x.tk + 1) p ≤ 4294967296) (S : ASt) : ADet Tryz.prog 20 [.agg [.p (prog p)]] S (Sg (if prWhole p then progB p else emS)) S := by
  refine ADet.intro mixed Tryz.call20 Tryz.func20 rfl ?_
  simp [Tryz.ntmps20]
  refine ⟨_, _, wholeProgC p hsm _, ?_⟩
  simp
  cases hw : prWhole p with
  | false =>
    refine ⟨_, _, writtenN _ _, ?_⟩
    simp
  | true =>
    have hit : ∀ x ∈ p, ItW x := fun x hx => itemW x 39 (allUp_mem hw x hx) (hr x hx)
    refine ⟨_, _, writtenC 55 [.ptr 0 0 0] _ (pgs p) (fun L i j h => ?_), ?_⟩
    · exact showProgram1 p hit hb (sm_max hsm.1) L _ S i j rfl h
    · simp [pgs_bytes]
set_option maxRecDepth 100000 in
set_option maxHeartbeats 1000000 in
theorem showProgramLawC (p : List It) (hr : ∀ x ∈ p, ItRg x) (hnn : ∀ x ∈ p, ItNn x) (S : ASt) : ADet Tryz.prog 4 [.agg [.p (prog p)]] S (B true) S := by
  refine ADet.intro mixed Tryz.call4 Tryz.func4 rfl ?_
  simp [Tryz.ntmps4]
  refine ⟨_, _, greatC _ p, ?_⟩
  cases hg : great p with
  | true => simp
  | false =>
    have hsm := pr_sm hg
    obtain ⟨htl, hts⟩ := pr_tls hr hg
    have hC := fun S => copiedC p hsm S
    have hS := fun S => sameC p S
    have hP := fun S => showProgramC p hsm hr (by omega) S
    have hW := fun S => r3WholeC p hsm hnn S
    have hR := fun S => r4ProgramC p hW (fun hw x hx => r4ItemC x 39 (allUp_mem hw x hx) (hsm.2 x hx) (hr x hx) (htl x hx)) hsm.1 (fun x hx => (htl x hx).1) (by omega) S
    simp
    refine ⟨_, _, hC _, ?_⟩
    simp
    refine awp_draw [(2, 1)] (by kernel_rfl) (by kernel_rfl) ?_
    simp
    refine ⟨_, _, hP _, ?_⟩
    simp
    refine ⟨_, _, hR _, ?_⟩
    simp [sEq_self]
    refine ⟨_, _, hS _, ?_⟩
    simp
end Go.Proofs.YtldglgdejmljnaaGreatDoor
