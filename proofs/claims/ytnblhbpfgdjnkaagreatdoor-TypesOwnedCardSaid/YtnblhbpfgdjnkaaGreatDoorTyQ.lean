/- weftwaylaw08.TypesOwned in the logic over abstract values. Its row is in a text of its own. -/
import Derived.Test.YtnblhbpfgdjnkaaGreatDoorTyW
import Derived.Test.YtnblhbpfgdjnkaaGreatDoorTyO
namespace Go.Proofs.YtnblhbpfgdjnkaaGreatDoor
open Go.RowKit
attribute [local simp] List.replicate List.range List.range.loop resA resOne retA
set_option linter.unusedVariables false
set_option linter.unusedSimpArgs false
theorem long_smQ {p : List It} {t : Ty} {l : List ByteArray} (h : long08 p t l = false) : great p = false ∧ PrSm p ∧ TySm t := by
  unfold long08 at h
  simp only [Bool.or_eq_false_iff, decide_eq_false_iff_not] at h
  exact ⟨h.1, pr_sm h.1, ty_sm t 20000 (by omega) (by omega) (by omega)⟩
theorem walk_oneQ {p : List It} {t : Ty} {s : ByteArray} {u : Ty} {c : Bool} (h : walkT p t [s] = some (u, c)) : ∃ d, stepT p t s = some (u, d) := by
  unfold walkT at h
  split at h
  · simp only [walkF] at h
    cases hs : stepT p t s with
    | none => rw [hs] at h; cases h
    | some r =>
      obtain ⟨v, d⟩ := r
      rw [hs] at h
      cases h
      exact ⟨d, rfl⟩
  · cases h
set_option maxRecDepth 100000 in
set_option maxHeartbeats 16000000 in
theorem typesOwnedC (p : List It) (t : Ty) (s : ByteArray) (S : ASt) : ADet Tryz.prog 6 [.agg [.p (prog p)], tyV t, Sg s] S (B true) S := by
  have lC := fun (d i : Nat) S => ADet.sub (.cons (.refl _) (.cons (.refl _) (.cons (.osl (d := d) (i := i) (.refl _)) (.refl _)))) (long08C p t [s] S)
  simp only [strs, List.map_cons, List.map_nil] at lC
  refine ADet.intro mixed Tryz.call6 Tryz.func6 rfl ?_
  simp [Tryz.ntmps6]
  refine ⟨_, _, awake08C _, ?_⟩
  simp
  refine ⟨_, _, lC _ _ _, ?_⟩
  cases hl : long08 p t [s] with
  | true => simp
  | false =>
  obtain ⟨hg, hp, ht⟩ := long_smQ hl
  obtain ⟨fs, hfs, hlen⟩ := check_told hg
  have cC := fun S => checkC p 300 hp fs hfs (by omega) S
  have oC := fun S => tyOwnedC t S
  have sC := fun S => tyStepC p hp t ht s S
  simp
  refine ⟨_, _, cC _, ?_⟩
  cases fs with
  | cons f fs =>
    have h1 : (0 : Int) < (fs.length : Int) + 1 := by omega
    simp [h1]
  | nil =>
  simp
  refine ⟨_, _, oC _, ?_⟩
  cases ho : t.owned with
  | false => simp
  | true =>
  simp
  refine ⟨_, _, sC _, ?_⟩
  cases hw : walkT p t [s] with
  | none => simp
  | some r =>
    obtain ⟨u, c⟩ := r
    obtain ⟨d, hs⟩ := walk_oneQ hw
    have hu := step_owned hfs ho hs
    have uC := fun S => tyOwnedC u S
    rw [hu] at uC
    simp
    refine ⟨_, _, uC _, ?_⟩
    simp
end Go.Proofs.YtnblhbpfgdjnkaaGreatDoor
