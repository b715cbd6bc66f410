/- weftwaylaw08.TypesPieces in the logic over abstract values. Its row is in a text of its own. -/
import Derived.Test.YtnblhbpfgdjnkaaGreatDoorTyW
import Derived.Test.YtnblhbpfgdjnkaaGreatDoorTyZ
import Derived.Test.YtnblhbpfgdjnkaaGreatDoorMR3
import Derived.Test.YtnblhbpfgdjnkaaGreatDoorMRv
namespace Go.Proofs.YtnblhbpfgdjnkaaGreatDoor
open Go.RowKit
attribute [local simp] List.replicate List.range List.range.loop resA resOne retA virtL virtO virt_get markL markO markR_get rowA List.contains_cons List.contains_nil List.find? nextD_eq awpD_nil awpD_cons LCp LCl refL
set_option linter.unusedVariables false
set_option linter.unusedSimpArgs false
theorem long_sm3 {p : List It} {t : Ty} {l : List ByteArray} (h : long08 p t l = false) : PrSm p ∧ TySm t := by
  unfold long08 at h
  simp only [Bool.or_eq_false_iff, decide_eq_false_iff_not] at h
  exact ⟨pr_sm h.1, ty_sm t 20000 (by omega) (by omega) (by omega)⟩
set_option maxRecDepth 100000 in
set_option maxHeartbeats 16000000 in
theorem typesPiecesC (p : List It) (t : Ty) (l : List ByteArray) (n : Int) (hnn : ∀ x ∈ p, ItNn x) (S : ASt) : ADet Tryz.prog 3 [.agg [.p (prog p)], tyV t, .p (strs l), I n] S (B true) S := by
  have lC := fun S => long08C p t l S
  refine ADet.intro mixed Tryz.call3 Tryz.func3 rfl ?_
  simp [Tryz.ntmps3]
  refine ⟨_, _, awake08C _, ?_⟩
  simp
  refine ⟨_, _, lC _, ?_⟩
  cases hl : long08 p t l with
  | true => simp
  | false =>
  obtain ⟨hp, ht⟩ := long_sm3 hl
  by_cases h0 : n < 0
  · simp [h0]
  by_cases h1 : (l.length : Int) < n
  · simp [h0, h1, strs]
  have hn : 0 ≤ n := by omega
  obtain ⟨k, hkn⟩ : ∃ k, n.toNat = k := ⟨_, rfl⟩
  have hk : k ≤ l.length := by omega
  have wC := fun S => walkC p hp t ht l S
  have aC := fun S => walkC p hp t ht (l.take k) S
  have rC := fun S => r3WholeC p hp hnn S
  have e1 : strs (l.take k) = .sl 1 ((l.map fun s => [pS s]).take k) := by simp [strs]
  have e2 : strs (l.drop k) = .sl 1 ((l.map fun s => [pS s]).drop k) := by simp [strs]
  have e3 : ((l.map fun s => [pS s]).drop k).take (l.length - k) = (l.map fun s => [pS s]).drop k := List.take_of_length_le (by simp)
  rw [e1] at aC
  simp only [strs] at wC
  clear lC
  simp [h0, h1, strs]
  refine ⟨_, _, rC _, ?_⟩
  cases hw : prWhole p with
  | false => simp
  | true =>
  cases h2 : walkT p t (l.take k) with
  | none =>
    rw [walk_none k h2] at wC
    rw [h2] at aC
    simp only [walkR] at wC aC
    simp
    refine ⟨_, _, wC _, ?_⟩
    simp
    refine awp_drawL [(10, 11, 12)] [] (by kernel_rfl) (by kernel_rfl) (by kernel_rfl) (by simp) ?_
    simp [hk, hn, hkn]
    refine ⟨_, _, aC _, ?_⟩
    simp
  | some r =>
    obtain ⟨u, x⟩ := r
    have hu : TySm u := walkT_sm hp ht h2
    have bC := fun S => walkC p hp u hu (l.drop k) S
    rw [e2] at bC
    rw [walk_some hw k h2] at wC
    rw [h2] at aC
    cases h3 : walkT p u (l.drop k) with
    | none =>
      have zC := fun S => ADet.sub (.cons (.agg (.cons (.refl _) (.cons (.refl _) (.cons (.p (.nil 3)) (.refl _))))) (.cons (.agg (.cons (.refl _) (.cons (.refl _) (.cons (.p (.nil 3)) (.refl _))))) (.refl _))) (sameTypeC (.mk 0 emS []) S)
      rw [h3] at bC wC
      simp only [walkR, Option.map_none, tyV, mk_kind8, mk_name8, mk_args8] at wC aC bC zC
      simp
      refine ⟨_, _, wC _, ?_⟩
      simp
      refine awp_drawL [(10, 11, 12)] [] (by kernel_rfl) (by kernel_rfl) (by kernel_rfl) (by simp) ?_
      simp [hk, hn, hkn]
      refine ⟨_, _, aC _, ?_⟩
      simp
      refine awp_drawL [(10, 11, 15)] [] (by kernel_rfl) (by kernel_rfl) (by kernel_rfl) (by simp) ?_
      simp [hk, hn, hkn, e3]
      refine ⟨_, _, bC _, ?_⟩
      cases x
      all_goals
        simp
        refine ⟨_, _, zC _, ?_⟩
        simp
    | some q =>
      obtain ⟨v, y⟩ := q
      have zC := fun S => sameTypeC v S
      rw [h3] at bC wC
      simp only [walkR, Option.map_some, tyV] at wC aC bC zC
      simp
      refine ⟨_, _, wC _, ?_⟩
      simp
      refine awp_drawL [(10, 11, 12)] [] (by kernel_rfl) (by kernel_rfl) (by kernel_rfl) (by simp) ?_
      simp [hk, hn, hkn]
      refine ⟨_, _, aC _, ?_⟩
      simp
      refine awp_drawL [(10, 11, 15)] [] (by kernel_rfl) (by kernel_rfl) (by kernel_rfl) (by simp) ?_
      simp [hk, hn, hkn, e3]
      refine ⟨_, _, bC _, ?_⟩
      cases x <;> cases y
      all_goals
        simp
        refine ⟨_, _, zC _, ?_⟩
        simp
end Go.Proofs.YtnblhbpfgdjnkaaGreatDoor
