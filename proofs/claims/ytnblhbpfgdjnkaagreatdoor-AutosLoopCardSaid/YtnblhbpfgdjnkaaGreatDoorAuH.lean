/- What is told of Send and Sync, in plain words: an answer is no just if a question that is never yes can be reached. No statement is proved here. -/
import Derived.Test.YtnblhbpfgdjnkaaGreatDoorAuP
namespace Go.Proofs.YtnblhbpfgdjnkaaGreatDoor
open Go.RowKit
set_option linter.unusedVariables false
set_option linter.unusedSimpArgs false
inductive NoQ (p : List It) : Qn → Prop
  | never (q : Qn) : neverQ q.1 q.2 = true → NoQ p q
  | ask (q q' : Qn) : q' ∈ asksL p q.1 q.2 → NoQ p q' → NoQ p q
inductive Cov (p : List It) (V : ByteArray × Bool → Prop) : Qn → Prop
  | name (q : Qn) : q.1.kind = 4 → V (q.1.name, q.2) → Cov p V q
  | step (q : Qn) : q.1.kind ≠ 4 → neverQ q.1 q.2 = false → (∀ q' ∈ asksL p q.1 q.2, Cov p V q') → Cov p V q
theorem Cov.mono {p : List It} {V V' : ByteArray × Bool → Prop} (h : ∀ k, V k → V' k) {q : Qn} (hq : Cov p V q) : Cov p V' q := by
  induction hq with
  | name q h1 h2 => exact .name q h1 (h _ h2)
  | step q h1 h2 h3 ih => exact .step q h1 h2 ih
def vis (a : Asked) (k : ByteArray × Bool) : Prop := k ∈ a.map (·.1)
theorem bump_vis (s : ByteArray) (b : Bool) (k : ByteArray × Bool) : ∀ (a : Asked), vis (bumpA s b a).1 k ↔ vis a k ∨ k = (s, b)
  | [] => by simp [bumpA, vis]
  | ((s', b'), n) :: a => by
    have ih := bump_vis s b k a
    unfold vis at ih ⊢
    unfold bumpA
    split
    · rename_i h
      simp only [Bool.and_eq_true, beq_iff_eq] at h
      obtain ⟨h1, rfl⟩ := h
      have h1 := sEq_iff.1 h1
      subst h1
      simp only [List.map_cons, List.mem_cons]
      constructor
      · rintro (h | h)
        · exact .inl (.inl h)
        · exact .inl (.inr h)
      · rintro ((h | h) | h)
        · exact .inl h
        · exact .inr h
        · exact .inl h
    · simp only [List.map_cons, List.mem_cons, ih]
      constructor
      · rintro (h | h | h)
        · exact .inl (.inl h)
        · exact .inl (.inr h)
        · exact .inr h
      · rintro ((h | h) | h)
        · exact .inl h
        · exact .inr (.inl h)
        · exact .inr (.inr h)
theorem bump_new (s : ByteArray) (b : Bool) : ∀ (a : Asked), ¬ vis a (s, b) → (bumpA s b a).2 = 1
  | [], h => rfl
  | ((s', b'), n) :: a, h => by
    unfold vis at h
    simp only [List.map_cons, List.mem_cons, not_or] at h
    unfold bumpA
    split
    · rename_i h1
      simp only [Bool.and_eq_true, beq_iff_eq] at h1
      obtain ⟨h2, rfl⟩ := h1
      have h2 := sEq_iff.1 h2
      subst h2
      exact absurd rfl h.1
    · exact bump_new s b a h.2
/-- what a name asks for is covered -/
def Clo (p : List It) (V : ByteArray × Bool → Prop) (k : ByteArray × Bool) : Prop := ∀ t : Ty, t.kind = 4 → t.name = k.1 → ∀ q ∈ asksL p t k.2, Cov p V q
def Good (p : List It) (a a' : Asked) : Prop := (∀ k, vis a k → vis a' k) ∧ ∀ k, vis a' k → ¬ vis a k → Clo p (vis a') k
theorem Good.trans {p : List It} {a a1 a' : Asked} (h1 : Good p a a1) (h2 : Good p a1 a') : Good p a a' :=
  ⟨fun k h => h2.1 k (h1.1 k h), fun k h hn => by
    by_cases hk : vis a1 k
    · intro t ht hs q hq
      exact (h1.2 k hk hn t ht hs q hq).mono h2.1
    · exact h2.2 k h hk⟩
theorem askAll_good {p : List It} {f : Qn → Asked → Option (Bool × Asked)} (hf : ∀ q a a', f q a = some (false, a') → Good p a a' ∧ Cov p (vis a') q) : ∀ (qs : List Qn) (a a' : Asked), askAll f qs a = some (false, a') → Good p a a' ∧ ∀ q ∈ qs, Cov p (vis a') q
  | [], a, a', h => by
    cases h
    exact ⟨⟨fun k h => h, fun k h hn => absurd h hn⟩, fun q hq => by cases hq⟩
  | q :: qs, a, a', h => by
    unfold askAll at h
    split at h
    · cases h
    · rename_i a1 h1
      obtain ⟨g1, c1⟩ := hf q a a1 h1
      obtain ⟨g2, c2⟩ := askAll_good hf qs a1 a' h
      refine ⟨g1.trans g2, fun x hx => ?_⟩
      rcases List.mem_cons.1 hx with rfl | hx
      · exact c1.mono g2.1
      · exact c2 x hx
    · cases h
theorem forb_good (p : List It) : ∀ (n : Nat) (q : Qn) (a a' : Asked), forbF p n q a = some (false, a') → Good p a a' ∧ Cov p (vis a') q := by
  intro n
  induction n with
  | zero => intro q a a' h; cases h
  | succ n ih =>
    rintro ⟨t, b⟩ a a' h
    unfold forbF at h
    split at h
    · rename_i h4
      have hself : vis (bumpA t.name b a).1 (t.name, b) := (bump_vis _ _ _ _).2 (.inr rfl)
      split at h
      · rename_i hc
        cases h
        refine ⟨⟨fun k h => (bump_vis _ _ _ _).2 (.inl h), fun k h hn => ?_⟩, .name _ h4 hself⟩
        rcases (bump_vis _ _ _ _).1 h with h | h
        · exact absurd h hn
        · subst h
          rw [bump_new _ _ _ hn] at hc
          omega
      · obtain ⟨g, c⟩ := askAll_good ih _ _ _ h
        refine ⟨⟨fun k h => g.1 k ((bump_vis _ _ _ _).2 (.inl h)), fun k h hn => ?_⟩, .name _ h4 (g.1 _ hself)⟩
        by_cases hk : vis (bumpA t.name b a).1 k
        · rcases (bump_vis _ _ _ _).1 hk with h' | h'
          · exact absurd h' hn
          · subst h'
            intro t' ht' hs q hq
            have e : asksL p t' b = asksL p t b := by
              unfold asksL
              rw [if_pos ht', if_pos h4, show t'.name = t.name from hs]
            exact c q (by rw [← e]; exact hq)
        · exact g.2 k h hk
    · rename_i h4
      split at h
      · cases h
      · rename_i hn
        obtain ⟨g, c⟩ := askAll_good ih _ _ _ h
        exact ⟨g, .step _ h4 (by simpa using hn) c⟩
theorem askAll_no {p : List It} {f : Qn → Asked → Option (Bool × Asked)} (hf : ∀ q a a', f q a = some (true, a') → NoQ p q) : ∀ (qs : List Qn) (a a' : Asked), askAll f qs a = some (true, a') → ∃ q ∈ qs, NoQ p q
  | [], a, a', h => by cases h
  | q :: qs, a, a', h => by
    unfold askAll at h
    split at h
    · rename_i a1 h1
      exact ⟨q, List.mem_cons_self .., hf q a a1 h1⟩
    · rename_i a1 h1
      obtain ⟨x, hx, hn⟩ := askAll_no hf qs a1 a' h
      exact ⟨x, List.mem_cons_of_mem _ hx, hn⟩
    · cases h
theorem forb_no (p : List It) : ∀ (n : Nat) (q : Qn) (a a' : Asked), forbF p n q a = some (true, a') → NoQ p q := by
  intro n
  induction n with
  | zero => intro q a a' h; cases h
  | succ n ih =>
    rintro ⟨t, b⟩ a a' h
    unfold forbF at h
    split at h
    · split at h
      · cases h
      · obtain ⟨x, hx, hn⟩ := askAll_no ih _ _ _ h
        exact .ask _ x hx hn
    · split at h
      · rename_i hn
        exact .never _ hn
      · obtain ⟨x, hx, hn⟩ := askAll_no ih _ _ _ h
        exact .ask _ x hx hn
/-- an answer is no just if a question that is never yes can be reached -/
theorem forb_iff {p : List It} {n : Nat} {q : Qn} {r : Bool} {a : Asked} (h : forbF p n q [] = some (r, a)) : r = true ↔ NoQ p q := by
  cases r with
  | true => exact ⟨fun _ => forb_no p n q [] a h, fun _ => rfl⟩
  | false =>
    refine ⟨fun h => absurd h (by simp), fun hn => ?_⟩
    obtain ⟨g, c⟩ := forb_good p n q [] a h
    have clo : ∀ k, vis a k → Clo p (vis a) k := fun k hk => g.2 k hk (by simp [vis])
    exfalso
    clear h
    induction hn with
    | never q hq =>
      cases c with
      | name _ h1 h2 =>
        unfold neverQ at hq
        simp [h1] at hq
      | step _ h1 h2 h3 => rw [h2] at hq; cases hq
    | ask q q' hm hn ih =>
      cases c with
      | name _ h1 h2 => exact ih (clo _ h2 q.1 h1 rfl q' hm)
      | step _ h1 h2 h3 => exact ih (h3 q' hm)
end Go.Proofs.YtnblhbpfgdjnkaaGreatDoor
