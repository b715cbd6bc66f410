/- autos.answer's closure in the logic over abstract values. No statement is proved here. -/
import Derived.Test.YtnblhbpfgdjnkaaGreatDoorAuB
namespace Go.Proofs.YtnblhbpfgdjnkaaGreatDoor
open Go.RowKit
set_option linter.unusedVariables false
set_option linter.unusedSimpArgs false
theorem get2_app {α : Type} (X : List (List α)) (L : List α) (S : List (List α)) (i : Nat) : get2 (X ++ L :: S) X.length i = L[i]? := by
  unfold get2
  simp
theorem set2_app {α : Type} (X : List (List α)) (L : List α) (S : List (List α)) (i : Nat) (o : α) : set2 (X ++ L :: S) X.length i o = X ++ L.set i o :: S := by
  unfold set2
  simp
/-! ### What was asked, as a map -/
def encA (a : Asked) : List (Value × AV) := a.map fun x => (.agg #[.string x.1.1, .bool x.1.2], I x.2)
theorem mf2_cons (s t : ByteArray) (b c : Bool) (v : AV) (es : List (Value × AV)) (i : Nat) : mapFind2 .string .bool (.string s) (.bool b) ((.agg #[.string t, .bool c], v) :: es) i = if (sEq s t && (b == c)) = true then some (some (i, v)) else mapFind2 .string .bool (.string s) (.bool b) es (i + 1) := by
  have h : Instr.sameNow .string (.string s) (.string t) = some (sEq s t) := by
    show some (s.data == t.data) = _
    congr 1
    rw [Bool.eq_iff_iff, sEq_iff, beq_iff_eq]
    exact ⟨fun h => ByteArray.ext h, fun h => by rw [h]⟩
  have h2 : Instr.sameNow .bool (.bool b) (.bool c) = some (b == c) := by simp only [Instr.sameNow]
  rw [mapFind2]
  simp only [h, h2]
theorem mf2_new (s : ByteArray) (b : Bool) (v : AV) : ∀ (es : List (Value × AV)) (i : Nat), mapFind2 .string .bool (.string s) (.bool b) es i = some none → mapFind2 .string .bool (.string s) (.bool b) (es ++ [(.agg #[.string s, .bool b], v)]) i = some (some (i + es.length, v))
  | [], i, h => by
    have e : sEq s s = true := sEq_iff.2 rfl
    simp [mf2_cons, e]
  | (k, u) :: es, i, h => by
    cases k with
    | agg cs =>
      rw [mapFind2] at h
      rw [List.cons_append, mapFind2]
      split at h
      · rename_i c d hcs
        split at h
        · rename_i x y h1 h2
          split at h
          · cases h
          · rename_i hxy
            first | rw [if_neg hxy] | skip
            rw [mf2_new s b v es (i + 1) h]
            simp; omega
        · cases h
      · cases h
    | _ => simp [mapFind2] at h
theorem mf2_set (s : ByteArray) (b : Bool) (v u : AV) : ∀ (es : List (Value × AV)) (i j : Nat), mapFind2 .string .bool (.string s) (.bool b) es i = some (some (i + j, u)) → mapFind2 .string .bool (.string s) (.bool b) (es.set j (.agg #[.string s, .bool b], v)) i = some (some (i + j, v))
  | [], i, j, h => by simp [mapFind2] at h
  | (k, w) :: es, i, j, h => by
    have e : sEq s s = true := sEq_iff.2 rfl
    cases j with
    | zero => simp [mf2_cons, e]
    | succ j =>
      cases k with
      | agg cs =>
        rw [mapFind2] at h
        rw [List.set_cons_succ, mapFind2]
        split at h
        · split at h
          · rename_i x y h1 h2
            split at h
            · simp at h
            · rename_i hxy
              first | rw [if_neg hxy] | skip
              have h' : mapFind2 .string .bool (.string s) (.bool b) es (i + 1) = some (some (i + 1 + j, u)) := by rw [h]; simp; omega
              rw [mf2_set s b v u es (i + 1) j h']
              simp; omega
          · cases h
        · cases h
      | _ => simp [mapFind2] at h
theorem bump_cases (s : ByteArray) (b : Bool) : ∀ (a : Asked) (i : Nat), (mapFind2 .string .bool (.string s) (.bool b) (encA a) i = some none ∧ bumpA s b a = (a ++ [((s, b), 1)], 1)) ∨
    ∃ j n, mapFind2 .string .bool (.string s) (.bool b) (encA a) i = some (some (i + j, I n)) ∧ j < a.length ∧ (bumpA s b a).2 = IntKind.i64.wrap (n + 1) ∧ encA (bumpA s b a).1 = (encA a).set j (.agg #[.string s, .bool b], I (IntKind.i64.wrap (n + 1))) ∧ (encA a)[j]? = some (.agg #[.string s, .bool b], I n)
  | [], i => .inl ⟨rfl, rfl⟩
  | ((t, c), n) :: a, i => by
    have e : encA (((t, c), n) :: a) = (.agg #[.string t, .bool c], I n) :: encA a := rfl
    rw [e, mf2_cons, bumpA]
    by_cases h : (sEq s t && (b == c)) = true
    · rw [if_pos h, if_pos h]
      have h' := h
      simp only [Bool.and_eq_true, beq_iff_eq] at h'
      obtain ⟨h1, rfl⟩ := h'
      have h1 := sEq_iff.1 h1
      subst h1
      exact .inr ⟨0, n, rfl, by simp, rfl, rfl, rfl⟩
    · rw [if_neg h, if_neg h]
      rcases bump_cases s b a (i + 1) with ⟨h1, h2⟩ | ⟨j, m, h1, h2, h3, h4, h5⟩
      · exact .inl ⟨h1, by rw [h2]; rfl⟩
      · refine .inr ⟨j + 1, m, by rw [h1]; simp; omega, by simp; omega, h3, ?_, by simpa using h5⟩
        show (Value.agg #[.string t, .bool c], I n) :: encA (bumpA s b a).1 = _
        rw [h4]; rfl
/-- what autos.answer has laid -/
def lvA (p : List It) (t : Ty) (b : Bool) (a : Asked) : List AObj := [.cells [.p (prog p)] 24, .cells (qCs t b) 90, .map (encA a), .cells [.mp 0 2] 126, .cells [.fn (.func 80) [] [.ptr 0 3 0, .ptr 0 0 0, .ptr 0 4 0]] 127]
theorem askAll_flag (f : Qn → Asked → Option (Bool × Asked)) : ∀ (qs : List Qn) (a : Asked) (r : Bool × Asked), askAll f qs a = some r → askAll (fun q (x : Bool × Asked) => if x.1 = true then none else (f q x.2).map fun r => (r.1, (r.1, r.2))) qs (false, a) = some (r.1, (r.1, r.2))
  | [], a, r, h => by cases h; rfl
  | q :: qs, a, r, h => by
    simp only [askAll] at h ⊢
    rw [if_neg (by simp)]
    cases hf : f q a with
    | none => rw [hf] at h; cases h
    | some s =>
      obtain ⟨s1, a'⟩ := s
      rw [hf] at h
      cases s1 with
      | true => cases h; rfl
      | false => exact askAll_flag f qs a' r h
end Go.Proofs.YtnblhbpfgdjnkaaGreatDoor
