/- autos.answer, Send, Sync in the logic over abstract values. No statement is proved here. -/
import Derived.Test.YtnblhbpfgdjnkaaGreatDoorAuD
import Derived.Test.YtnblhbpfgdjnkaaGreatDoorMWh
namespace Go.Proofs.YtnblhbpfgdjnkaaGreatDoor
open Go.RowKit
attribute [local simp] List.replicate List.range List.range.loop resA resOne retA
set_option linter.unusedVariables false
set_option linter.unusedSimpArgs false
set_option maxRecDepth 100000 in
set_option maxHeartbeats 8000000 in
theorem answerC (p : List It) (hp : PrSm p) (t : Ty) (ht : TySm t) (b : Bool) (n : Nat) (r : Bool) (h : answerF p n t b = some r) (S : ASt) : ADet Tryz.prog 49 [.agg [.p (prog p)], qV t b] S (B r) S := by
  have wC := fun S => wholeTypeC t ht 40 S (by omega) (by omega)
  have wtC : ∀ S, ADet Tryz.prog 35 [tyV t] S (B (t.whole 40)) S := fun S => by
    refine ADet.intro mixed Tryz.call35 Tryz.func35 rfl ?_
    simp [Tryz.ntmps35]
    refine ⟨_, _, wC _, ?_⟩
    simp
  unfold answerF at h
  refine ADet.intro mixed Tryz.call49 Tryz.func49 rfl ?_
  simp [Tryz.ntmps49]
  refine ⟨_, _, wtC _, ?_⟩
  cases hw : t.whole 40 with
  | false =>
    rw [hw, if_neg (by simp)] at h
    cases h
    simp
  | true =>
    rw [hw, if_pos rfl] at h
    obtain ⟨s, hs, rfl⟩ := Option.map_eq_some_iff.1 h
    have fC := forbC p hp t b n t b [] s ht hs [] S
    simp only [List.nil_append, List.length_nil, lvA, encA, List.map_nil] at fC
    simp
    refine ⟨_, _, fC, ?_⟩
    simp
set_option maxRecDepth 100000 in
theorem sendC (p : List It) (hp : PrSm p) (t : Ty) (ht : TySm t) (n : Nat) (r : Bool) (h : answerF p n t false = some r) (S : ASt) : ADet Tryz.prog 29 [.agg [.p (prog p)], tyV t] S (B r) S := by
  have aC := fun S => answerC p hp t ht false n r h S
  refine ADet.intro mixed Tryz.call29 Tryz.func29 rfl ?_
  simp [Tryz.ntmps29]
  refine ⟨_, _, aC _, ?_⟩
  simp
set_option maxRecDepth 100000 in
theorem syncC (p : List It) (hp : PrSm p) (t : Ty) (ht : TySm t) (n : Nat) (r : Bool) (h : answerF p n t true = some r) (S : ASt) : ADet Tryz.prog 27 [.agg [.p (prog p)], tyV t] S (B r) S := by
  have aC := fun S => answerC p hp t ht true n r h S
  refine ADet.intro mixed Tryz.call27 Tryz.func27 rfl ?_
  simp [Tryz.ntmps27]
  refine ⟨_, _, aC _, ?_⟩
  simp
set_option maxRecDepth 100000 in
theorem as09C (p : List It) (hp : PrSm p) (t : Ty) (ht : TySm t) (n : Nat) (x y : Bool) (hx : answerF p n t false = some x) (hy : answerF p n t true = some y) (S : ASt) : ADet Tryz.prog 26 [.agg [.p (prog p)], tyV t, B x, B y] S (B true) S := by
  have aC := fun S => sendC p hp t ht n x hx S
  have bC := fun S => syncC p hp t ht n y hy S
  refine ADet.intro mixed Tryz.call26 Tryz.func26 rfl ?_
  simp [Tryz.ntmps26]
  refine ⟨_, _, aC _, ?_⟩
  simp
  refine ⟨_, _, bC _, ?_⟩
  simp
set_option maxRecDepth 100000 in
theorem wrap09C (k : Int) (t : Ty) (S : ASt) : ADet Tryz.prog 25 [U k, tyV t] S (tyV (.mk k emS [t])) S := by
  refine ADet.intro mixed Tryz.call25 Tryz.func25 rfl ?_
  simp [Tryz.ntmps25, Ty.kind, Ty.name, Ty.args]
  rw [tyEnc]; rfl
end Go.Proofs.YtnblhbpfgdjnkaaGreatDoor
