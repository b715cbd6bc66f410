/- Send and Sync in plain words. No statement is proved here. -/
import Derived.Test.YtnblhbpfgdjnkaaGreatDoorMTy
namespace Go.Proofs.YtnblhbpfgdjnkaaGreatDoor
open Go.RowKit
set_option linter.unusedVariables false
/-- a question: is a type Send (false), Sync (true)? -/
abbrev Qn := Ty × Bool
def neverQ (t : Ty) (b : Bool) : Bool := decide (t.kind = 7) || (b && decide (t.kind = 6))
def asksArg (k : Int) (b : Bool) (x : Ty) : List Qn :=
  if k = 8 then [(x, false), (x, true)]
  else if k = 9 ∨ k = 11 ∨ k = 12 then [(x, false)]
  else if k = 13 then [(x, true)]
  else [(x, b)]
def asksL (p : List It) (t : Ty) (b : Bool) : List Qn :=
  if t.kind = 4 then ((fieldsT p t.name).getD []).map fun f => (f.type, b) else t.args.flatMap (asksArg t.kind b)
/-- what was asked, how often -/
abbrev Asked := List ((ByteArray × Bool) × Int)
def bumpA (s : ByteArray) (b : Bool) : Asked → Asked × Int
  | [] => ([((s, b), 1)], 1)
  | ((s', b'), n) :: a => if (sEq s s' && (b == b')) = true then (((s, b), IntKind.i64.wrap (n + 1)) :: a, IntKind.i64.wrap (n + 1)) else (((s', b'), n) :: (bumpA s b a).1, (bumpA s b a).2)
/-- questions, one behind the other, until one is told no -/
def askAll {α : Type} (f : Qn → α → Option (Bool × α)) : List Qn → α → Option (Bool × α)
  | [], a => some (false, a)
  | q :: qs, a =>
    match f q a with
    | some (true, a') => some (true, a')
    | some (false, a') => askAll f qs a'
    | none => none
/-- is a question's answer no? (none: this takes more rounds) -/
def forbF (p : List It) : Nat → Qn → Asked → Option (Bool × Asked)
  | 0, q, a => none
  | n + 1, (t, b), a =>
    if t.kind = 4 then
      if 1 < (bumpA t.name b a).2 then some (false, (bumpA t.name b a).1)
      else askAll (forbF p n) (asksL p t b) (bumpA t.name b a).1
    else if neverQ t b = true then some (true, a)
    else askAll (forbF p n) (asksL p t b) a
def answerF (p : List It) (n : Nat) (t : Ty) (b : Bool) : Option Bool := if t.whole 40 = true then (forbF p n (t, b) []).map fun r => !r.1 else some false
theorem asks_sm {p : List It} (hp : PrSm p) {t : Ty} (ht : TySm t) {b : Bool} {u : Ty} {c : Bool} (h : (u, c) ∈ asksL p t b) : TySm u := by
  unfold asksL at h
  split at h
  · obtain ⟨g, hg, he⟩ := List.mem_map.1 h
    cases he
    unfold fieldsT at hg
    cases hx : firstIt p t.name with
    | none => rw [hx] at hg; simp at hg
    | some x =>
      rw [hx] at hg
      simp only at hg
      split at hg
      · exact ((first_sm hp hx).2.1.2 g (by simpa using hg)).2
      · simp at hg
  · obtain ⟨x, hx, he⟩ := List.mem_flatMap.1 h
    obtain ⟨_, _, _, h4⟩ := ht
    have hs := h4 x hx
    unfold asksArg at he
    split at he
    · simp at he
      rcases he with ⟨rfl, _⟩ | ⟨rfl, _⟩ <;> exact hs
    · split at he
      · simp at he; obtain ⟨rfl, _⟩ := he; exact hs
      · split at he
        · simp at he; obtain ⟨rfl, _⟩ := he; exact hs
        · simp at he; obtain ⟨rfl, _⟩ := he; exact hs
end Go.Proofs.YtnblhbpfgdjnkaaGreatDoor
