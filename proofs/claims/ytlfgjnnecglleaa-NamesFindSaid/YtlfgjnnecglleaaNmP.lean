/- Where the lists of a copy lie. No statement is proved here. -/
import Derived.Test.YtlfgjnnecglleaaMCr
namespace Go.Proofs.Ytlfgjnnecglleaa
open Go.RowKit
set_option linter.unusedVariables false
set_option linter.unusedSimpArgs false
theorem itsO_get : ∀ (ys : List It) (q : Nat) (h : q < ys.length), (itsO ys)[6 * q + 3]? = some (.row 44 4 ys[q].fields.length (rowC Fi.enc ys[q].fields)) ∧ (itsO ys)[6 * q + 4]? = some (.row 47 15 ys[q].body.length (rowC St.enc ys[q].body))
  | y :: ys, 0, h => ⟨rfl, rfl⟩
  | y :: ys, q + 1, h => by
    obtain ⟨h1, h2⟩ := itsO_get ys q (by simpa using h)
    have hl : (itO6 y).length = 6 := rfl
    constructor
    · rw [itsO, List.getElem?_append_right (by rw [hl]; omega), hl, show 6 * (q + 1) + 3 - 6 = 6 * q + 3 by omega, h1]; rfl
    · rw [itsO, List.getElem?_append_right (by rw [hl]; omega), hl, show 6 * (q + 1) + 4 - 6 = 6 * q + 4 by omega, h2]; rfl
theorem prO_get (m : Nat) (ys : List It) {q : Nat} (h : q < ys.length) : (prO m ys)[6 * q + 4]? = some (.row 44 4 ys[q].fields.length (rowC Fi.enc ys[q].fields)) ∧ (prO m ys)[6 * q + 5]? = some (.row 47 15 ys[q].body.length (rowC St.enc ys[q].body)) := itsO_get ys q h
theorem itsRC_len : ∀ (m : Nat) (ys : List It), (itsRC m ys).length = 16 * ys.length
  | m, [] => rfl
  | m, y :: ys => by rw [itsRC, List.length_append, itsRC_len]; simp [itRC]; omega
theorem itsRC_part : ∀ (m : Nat) (ys : List It) (q : Nat) (h : q < ys.length), ((itsRC m ys).drop (q * 16)).take 16 = itRC ys[q] (m + 6 * q + 4) (m + 6 * q + 5)
  | m, y :: ys, 0, h => by
    rw [itsRC, Nat.zero_mul, List.drop_zero, List.take_append_of_le_length (by simp [itRC]), List.take_of_length_le (by simp [itRC])]
    rfl
  | m, y :: ys, q + 1, h => by
    have hl : (itRC y (m + 4) (m + 5)).length = 16 := rfl
    rw [itsRC, List.drop_append, List.drop_of_length_le (by rw [hl]; omega), List.nil_append, hl, show (q + 1) * 16 - 16 = q * 16 by omega, itsRC_part (m + 6) ys q (by simpa using h)]
    have e1 : m + 6 + 6 * q + 4 = m + 6 * (q + 1) + 4 := by omega
    have e2 : m + 6 + 6 * q + 5 = m + 6 * (q + 1) + 5 := by omega
    rw [e1, e2]
    rfl
end Go.Proofs.Ytlfgjnnecglleaa
