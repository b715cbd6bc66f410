/- Each answer in a program that is whole. No statement is proved here. -/
import Derived.Test.YtnblhbpfgdjnkaaGreatDoorAuH
import Derived.Test.YtnblhbpfgdjnkaaGreatDoorAuI
namespace Go.Proofs.YtnblhbpfgdjnkaaGreatDoor
open Go.RowKit
set_option linter.unusedVariables false
set_option linter.unusedSimpArgs false
theorem allUp_eqJ {α : Type} (p : α → Bool) (l : List α) (m : Int) : allUp p l m = (decide ((l.length : Int) ≤ m) && l.all p) := by
  by_cases h : (l.length : Int) ≤ m
  · rw [allUp_all h]; simp [h]
  · simp [allUp, h]
theorem whole_DQ {p : List It} (hp : prWhole p = true) : p.length ≤ 30 ∧ ∀ x ∈ p, x.fields.length ≤ 6 ∧ ∀ g ∈ x.fields, DQ g.type 38 := by
  unfold prWhole at hp
  rw [allUp_eqJ] at hp
  simp only [Bool.and_eq_true, List.all_eq_true, decide_eq_true_eq] at hp
  refine ⟨by omega, fun x hx => ?_⟩
  have hw := hp.2 x hx
  have key : ∀ k, (allUp (fieldB k 39) x.fields 6) = true → x.fields.length ≤ 6 ∧ ∀ g ∈ x.fields, DQ g.type 38 := fun k h => by
    rw [allUp_eqJ] at h
    simp only [Bool.and_eq_true, List.all_eq_true, decide_eq_true_eq] at h
    refine ⟨by omega, fun g hg => ?_⟩
    have h2 := h.2 g hg
    unfold fieldB at h2
    simp only [Bool.and_eq_true, Bool.or_eq_true] at h2
    rcases h2.2 with h3 | h3
    · right
      have h4 := h3.2
      unfold zeroTyB at h4
      simp only [Bool.and_eq_true, beq_iff_eq, decide_eq_true_eq] at h4
      exact ⟨h4.1, List.length_eq_zero_iff.1 h4.2.2⟩
    · left
      exact h3
  unfold It.whole at hw
  split at hw
  · simp only [Bool.and_eq_true] at hw
    exact key _ hw.2
  · split at hw
    · simp only [Bool.and_eq_true] at hw
      exact key _ hw.2.1
    · cases hw
theorem answer_iffD {p : List It} (hD : p.length ≤ 30 ∧ ∀ x ∈ p, x.fields.length ≤ 6 ∧ ∀ g ∈ x.fields, DQ g.type 38) (t : Ty) (b : Bool) : ∃ r : Bool, answerF p 2600 t b = some r ∧ (t.whole 40 = true → (r = true ↔ ¬ NoQ p (t, b))) ∧ (t.whole 40 = false → r = false) := by
  unfold answerF
  cases hw : t.whole 40 with
  | false => exact ⟨false, rfl, fun h => absurd h (by simp), fun _ => rfl⟩
  | true =>
    obtain ⟨hl, hf⟩ := hD
    have hc : cntQ p [] ≤ 60 := by
      unfold cntQ
      have h1 : p.countP (fun x => !(([] : Asked).any fun e => sEq x.name e.1.1 && (e.1.2 == false))) ≤ p.length := List.countP_le_length
      have h2 : p.countP (fun x => !(([] : Asked).any fun e => sEq x.name e.1.1 && (e.1.2 == true))) ≤ p.length := List.countP_le_length
      omega
    obtain ⟨r, a', C', h1, _⟩ := forb_tot p hf 2600 t 40 b [] 0 (.inl hw) (Nat.le_refl _) (by omega) (fun e he => by cases he) (by
      have e : (2 ^ 40 : Nat) = 1099511627776 := by decide
      omega)
    have hi := forb_iff h1
    refine ⟨!r, by rw [if_pos rfl, h1]; rfl, fun _ => ?_, fun h => absurd h (by simp)⟩
    rw [← hi]
    cases r <;> simp
theorem answer_iff {p : List It} (hp : prWhole p = true) (t : Ty) (b : Bool) : ∃ r : Bool, answerF p 2600 t b = some r ∧ (t.whole 40 = true → (r = true ↔ ¬ NoQ p (t, b))) ∧ (t.whole 40 = false → r = false) := answer_iffD (whole_DQ hp) t b
/-- a question is answered no if it is never yes, or one that it asks for is -/
theorem no_unfold (p : List It) (t : Ty) (b : Bool) : NoQ p (t, b) ↔ neverQ t b = true ∨ ∃ q ∈ asksL p t b, NoQ p q := by
  constructor
  · intro h
    cases h with
    | never _ h => exact .inl h
    | ask _ q h1 h2 => exact .inr ⟨q, h1, h2⟩
  · rintro (h | ⟨q, h1, h2⟩)
    · exact .never _ h
    · exact .ask _ q h1 h2
end Go.Proofs.YtnblhbpfgdjnkaaGreatDoor
