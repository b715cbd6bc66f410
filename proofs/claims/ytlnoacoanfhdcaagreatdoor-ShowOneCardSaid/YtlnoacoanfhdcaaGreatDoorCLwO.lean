/- weftwaylaw04.ShowOne in the logic over abstract values. The row is in a text of its own. -/
import Derived.Test.YtlnoacoanfhdcaaGreatDoorMAw
import Derived.Test.YtlnoacoanfhdcaaGreatDoorMAt
import Derived.Test.YtlnoacoanfhdcaaGreatDoorMCp
import Derived.Test.YtlnoacoanfhdcaaGreatDoorMSm
import Derived.Test.YtlnoacoanfhdcaaGreatDoorMRdn
namespace Go.Proofs.YtlnoacoanfhdcaaGreatDoor
open Go.RowKit
attribute [local simp] List.replicate List.range List.range.loop resA resOne retA virtL virtO virt_get markL markO markR_get rowA awpI_nil awpI_cons List.forall_mem_cons List.contains_cons List.contains_nil List.find? nextD_eq awpD_nil awpD_cons LCp LCl refL
set_option linter.unusedVariables false
set_option linter.unusedSimpArgs false

set_option maxRecDepth 100000 in
set_option maxHeartbeats 8000000 in
theorem showOneC (p q : List It) (hp : ∀ x ∈ p, ItRg x) (hq : ∀ x ∈ q, ItRg x) (S : ASt) : ADet Tryz.prog 3 [.agg [.p (prog p)], .agg [.p (prog q)]] S (B true) S := by
  refine ADet.intro mixed Tryz.call3 Tryz.func3 rfl ?_
  simp [Tryz.ntmps3]
  refine ⟨_, _, awakeC _, ?_⟩
  simp
  refine ⟨_, _, greatC _ p, ?_⟩
  cases g1 : great p with
  | true => simp
  | false =>
  simp
  refine ⟨_, _, greatC _ q, ?_⟩
  cases g2 : great q with
  | true => simp
  | false =>
  have hsp := pr_sm g1
  have hsq := pr_sm g2
  have htp := (pr_tls hp g1).2
  have htq := (pr_tls hq g2).2
  have wP := fun S => wholeProgC p hsp S
  have wQ := fun S => wholeProgC q hsq S
  have sP := fun S => showProgramC p hsp hp (by omega) S
  have sQ := fun S => showProgramC q hsq hq (by omega) S
  have eC := fun S => erasePC p hsp S
  have g3 : great (p.map (It.atm noAt)) = false := by rw [great_atm]; exact g1
  have hr3 := itRg_atm noAt hp
  have hs3 := pr_sm g3
  have ht3 := (pr_tls hr3 g3).2
  have sE := fun S => showProgramC (p.map (It.atm noAt)) hs3 hr3 (by omega) S
  rw [prWhole_atm, prog_atm] at sE
  have hee : sEq emS emS = true := sEq_iff.2 rfl
  have hpp : sEq (progB p) (progB p) = true := sEq_iff.2 rfl
  cases w1 : prWhole p with
  | false =>
    rw [w1] at wP sP
    simp only [Bool.false_eq_true, if_false] at sP
    simp
    refine awp_draw [(2, 1)] (by kernel_rfl) (by kernel_rfl) ?_
    simp
    refine ⟨_, _, sP _, ?_⟩
    simp
    refine ⟨_, _, sQ _, ?_⟩
    simp
    refine ⟨_, _, wP _, ?_⟩
    simp [hee]
  | true =>
  rw [w1] at wP sP sE
  simp only [if_true] at sP sE
  simp
  refine awp_draw [(2, 1)] (by kernel_rfl) (by kernel_rfl) ?_
  simp
  refine ⟨_, _, sP _, ?_⟩
  simp
  refine ⟨_, _, sQ _, ?_⟩
  simp
  refine ⟨_, _, wP _, ?_⟩
  simp
  have key : ∃ b : Bool, sEq (progB p) emS = b ∧ decide ((0 : Int) < (p.length : Int)) = !b := by
    by_cases h : p = []
    · subst h
      exact ⟨true, sEq_iff.2 rfl, rfl⟩
    · refine ⟨false, sEq_ne fun h1 => h (prog_empty.1 h1), ?_⟩
      have : 0 < p.length := List.length_pos_iff.2 h
      simp; omega
  obtain ⟨b, k1, k2⟩ := key
  cases w2 : prWhole q with
  | false =>
    rw [w2] at wQ
    cases b with
    | true =>
      have k3 : ¬ (0 : Int) < (p.length : Int) := by simpa using k2
      have k4 : ¬ 0 < p.length := by omega
      simp [prog, k1, k3, k4]
      refine ⟨_, _, wQ _, ?_⟩
      simp
      refine ⟨_, _, eC _, ?_⟩
      simp
      refine ⟨_, _, sE _, ?_⟩
      simp [hpp]
    | false =>
      have k3 : (0 : Int) < (p.length : Int) := by simpa using k2
      have k4 : 0 < p.length := by omega
      simp [prog, k1, k3, k4]
      refine ⟨_, _, wQ _, ?_⟩
      simp
      refine ⟨_, _, eC _, ?_⟩
      simp
      refine ⟨_, _, sE _, ?_⟩
      simp [hpp]
  | true =>
    rw [w2] at wQ sQ
    have mC := fun S => sameProgC p q S (sEq (progB p) (progB q)) (by rw [sEq_iff]; exact texts_one w1 w2 hp hq)
    cases b with
    | true =>
      have k3 : ¬ (0 : Int) < (p.length : Int) := by simpa using k2
      have k4 : ¬ 0 < p.length := by omega
      simp [prog, k1, k3, k4]
      refine ⟨_, _, wQ _, ?_⟩
      simp
      refine ⟨_, _, mC _, ?_⟩
      simp
      refine ⟨_, _, eC _, ?_⟩
      simp
      refine ⟨_, _, sE _, ?_⟩
      simp [hpp]
    | false =>
      have k3 : (0 : Int) < (p.length : Int) := by simpa using k2
      have k4 : 0 < p.length := by omega
      simp [prog, k1, k3, k4]
      refine ⟨_, _, wQ _, ?_⟩
      simp
      refine ⟨_, _, mC _, ?_⟩
      simp
      refine ⟨_, _, eC _, ?_⟩
      simp
      refine ⟨_, _, sE _, ?_⟩
      simp [hpp]
end Go.Proofs.YtlnoacoanfhdcaaGreatDoor
