/- The rules of Send and Sync, in plain words. No statement is proved here. -/
import Derived.Test.YtnblhbpfgdjnkaaGreatDoorAuJ
namespace Go.Proofs.YtnblhbpfgdjnkaaGreatDoor
open Go.RowKit
set_option linter.unusedVariables false
set_option linter.unusedSimpArgs false
def sA (p : List It) (t : Ty) (b : Bool) : Bool := (answerF p 2600 t b).getD false
theorem sA_eq {p : List It} (hp : prWhole p = true) (t : Ty) (b : Bool) : answerF p 2600 t b = some (sA p t b) := by
  obtain ⟨r, h, _⟩ := answer_iff hp t b
  unfold sA; rw [h]; rfl
theorem sA_iff {p : List It} (hp : prWhole p = true) {t : Ty} (hw : t.whole 40 = true) (b : Bool) : sA p t b = true ↔ ¬ NoQ p (t, b) := by
  obtain ⟨r, h, h1, _⟩ := answer_iff hp t b
  unfold sA; rw [h]; exact h1 hw
theorem sA_rule {p : List It} (hp : prWhole p = true) {t : Ty} (hw : t.whole 40 = true) (b c : Bool) (h : c = true ↔ (neverQ t b = false ∧ ∀ q ∈ asksL p t b, ¬ NoQ p q)) : sA p t b = c := by
  rw [Bool.eq_iff_iff, sA_iff hp hw, no_unfold, h]
  constructor
  · intro hn
    refine ⟨by simpa using fun h => hn (.inl h), fun q hq hN => hn (.inr ⟨q, hq, hN⟩)⟩
  · rintro ⟨h1, h2⟩ (h3 | ⟨q, hq, hN⟩)
    · rw [h1] at h3; cases h3
    · exact h2 q hq hN
theorem sA_args {p : List It} (hp : prWhole p = true) {t : Ty} (hw : t.whole 40 = true) (h4 : t.kind ≠ 4) (ha : t.args = []) (b : Bool) : sA p t b = true := by
  refine sA_rule hp hw b true ⟨fun _ => ⟨?_, fun q hq => ?_⟩, fun _ => rfl⟩
  · rcases ty_cases hw with ⟨hk, _⟩ | ⟨hk, _⟩ | ⟨_, _, _, x, hx, _⟩
    · unfold neverQ; cases b <;> simp <;> omega
    · exact absurd hk h4
    · rw [ha] at hx; cases hx
  · unfold asksL at hq
    rw [if_neg h4, ha] at hq
    cases hq
theorem sA_one {p : List It} (hp : prWhole p = true) {t x : Ty} (hw : t.whole 40 = true) (h4 : t.kind ≠ 4) (ha : t.args = [x]) (b : Bool) : x.whole 40 = true ∧ sA p t b = (!neverQ t b && (asksArg t.kind b x).all fun q => sA p x q.2) := by
  have hx : x.whole 40 = true := by
    rcases ty_cases hw with ⟨_, h⟩ | ⟨_, h⟩ | ⟨_, _, _, y, hy, hyw⟩
    · rw [ha] at h; cases h
    · rw [ha] at h; cases h
    · rw [ha] at hy; cases hy
      exact tyWhole_mono _ _ _ (by omega) hyw
  refine ⟨hx, sA_rule hp hw b _ ?_⟩
  have hA : asksL p t b = asksArg t.kind b x := by
    unfold asksL
    rw [if_neg h4, ha]
    simp
  have hq : ∀ q ∈ asksArg t.kind b x, q.1 = x := by
    unfold asksArg
    split
    · intro q hq; simp at hq; rcases hq with rfl | rfl <;> rfl
    · split
      · intro q hq; simp at hq; subst hq; rfl
      · split
        · intro q hq; simp at hq; subst hq; rfl
        · intro q hq; simp at hq; subst hq; rfl
  rw [hA]
  simp only [Bool.and_eq_true, Bool.not_eq_true', List.all_eq_true]
  refine and_congr Iff.rfl ⟨fun h q hm => ?_, fun h q hm => ?_⟩
  · have := (sA_iff hp hx q.2).1 (h q hm)
    obtain ⟨u, c⟩ := q
    have hu : u = x := hq _ hm
    subst hu
    exact this
  · have := h q hm
    obtain ⟨u, c⟩ := q
    have hu : u = x := hq _ hm
    subst hu
    exact (sA_iff hp hx c).2 this
theorem no_zero {p : List It} {t : Ty} (hk : t.kind = 0) (ha : t.args = []) (b : Bool) : ¬ NoQ p (t, b) := by
  rw [no_unfold]
  rintro (h | ⟨q, hq, _⟩)
  · unfold neverQ at h; simp [hk] at h
  · unfold asksL at hq
    rw [if_neg (by omega), ha] at hq
    cases hq
theorem sA_named {p : List It} (hp : prWhole p = true) {t : Ty} (hw : t.whole 40 = true) (h4 : t.kind = 4) (b : Bool) : sA p t b = ((fieldsT p t.name).getD []).all fun g => decide (g.type.kind = 0) || sA p g.type b := by
  refine sA_rule hp hw b _ ?_
  have hA : asksL p t b = ((fieldsT p t.name).getD []).map fun f => (f.type, b) := by unfold asksL; rw [if_pos h4]
  have hn : neverQ t b = false := by unfold neverQ; rw [h4]; cases b <;> rfl
  rw [hA, hn]
  have hl : ∀ g ∈ (fieldsT p t.name).getD [], DQ g.type 38 := by
    unfold fieldsT
    cases hx : firstIt p t.name with
    | none => intro g hg; simp at hg
    | some z =>
      simp only
      split
      · exact ((whole_DQ hp).2 z (List.mem_of_find?_eq_some hx)).2
      · intro g hg; simp at hg
  generalize (fieldsT p t.name).getD [] = l at *
  simp only [List.all_eq_true, List.mem_map, true_and]
  have key : ∀ g ∈ l, ((decide (g.type.kind = 0) || sA p g.type b) = true ↔ ¬ NoQ p (g.type, b)) := fun g hg => by
    rcases hl g hg with h | ⟨h1, h2⟩
    · have hk : ¬ g.type.kind = 0 := by
        rcases ty_cases h with ⟨hk, _⟩ | ⟨hk, _⟩ | ⟨hk, _⟩ <;> omega
      rw [decide_eq_false hk, Bool.false_or]
      exact sA_iff hp (tyWhole_mono _ _ _ (by omega) h) b
    · exact ⟨fun _ => no_zero h1 h2 b, fun _ => by simp [h1]⟩
  constructor
  · rintro h q ⟨g, hg, rfl⟩
    exact (key g hg).1 (h g hg)
  · intro h g hg
    exact (key g hg).2 (h _ ⟨g, hg, rfl⟩)
end Go.Proofs.YtnblhbpfgdjnkaaGreatDoor
