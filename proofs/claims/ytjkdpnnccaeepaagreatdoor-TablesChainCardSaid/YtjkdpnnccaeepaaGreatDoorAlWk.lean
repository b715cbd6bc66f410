/- Lists of objects that become more, plain. No statement is proved here. -/
import Derived.Test.YtjkdpnnccaeepaaGreatDoorAlLd
namespace Go.Proofs.YtjkdpnnccaeepaaGreatDoor
open Go.RowKit
set_option linter.unusedVariables false
set_option linter.unusedSimpArgs false
theorem wkR_refl : ∀ l : List AV, wkR l l
  | [] => trivial
  | a :: l => ⟨.inr rfl, wkR_refl l⟩
theorem wkL_cons {o o' : AObj} {a b : List AObj} (h : wkL [o] [o']) (k : wkL a b) : wkL (o :: a) (o' :: b) := by
  cases o <;> cases o' <;> simp_all [wkL]
theorem wkL_ex {m : Nat} {c d : List AObj} (h : wkL c d) : ∀ ex : List AObj, (∀ o ∈ ex, ∀ m, wkL [o.cut m] [o]) → wkL (ex.map (AObj.cut m) ++ c) (ex ++ d)
  | [], _ => h
  | o :: ex, hc => wkL_cons (hc o (by simp) m) (wkL_ex h ex fun o ho => hc o (List.mem_cons_of_mem _ ho))
theorem wk_keep {A B : List AObj} (h : ∀ o ∈ A, wkL [o.cut A.length] [o]) : wkL (List.map (AObj.cut A.length) (List.take A.length (A ++ B))) A := by
  rw [List.take_left]
  have key : ∀ (m : Nat) (A : List AObj), (∀ o ∈ A, wkL [o.cut m] [o]) → wkL (A.map (AObj.cut m)) A := by
    intro m A
    induction A with
    | nil => intro _; exact trivial
    | cons o A ih => intro hc; exact wkL_cons (hc o (by simp)) (ih fun o ho => hc o (List.mem_cons_of_mem _ ho))
  exact key _ A h
theorem wk_dead : ∀ A : List AObj, wkL A (List.replicate A.length .dead)
  | [] => trivial
  | o :: A => wkL_cons (by cases o <;> trivial) (wk_dead A)
theorem wkL_self {m : Nat} {o : AObj} (h : wkL [o.cut m] [o]) : wkL [o] [o] := by
  cases o with
  | raw => exact h.elim
  | dead => trivial
  | cells => exact ⟨⟨rfl, wkR_refl _⟩, trivial⟩
  | tok => exact ⟨⟨rfl, rfl, rfl⟩, trivial⟩
  | map => exact ⟨rfl, trivial⟩
  | row => exact ⟨⟨⟨rfl, rfl, rfl⟩, wkR_refl _⟩, trivial⟩
theorem wkL_selfs {m : Nat} : ∀ {A : List AObj}, (∀ o ∈ A, wkL [o.cut m] [o]) → wkL A A
  | [], _ => trivial
  | o :: A, h => wkL_cons (wkL_self (h o (by simp))) (wkL_selfs fun o ho => h o (List.mem_cons_of_mem _ ho))
theorem wkT_self {A : List AObj} {N : Nat} {S : ASt} (hl : A.length = N) (h : ∀ o ∈ A, wkL [o.cut N] [o]) : wkT (trim N (A :: S)) (A :: S) := by
  subst hl
  have := wk_keep (A := A) (B := []) h
  rw [List.append_nil] at this
  exact ⟨this, rfl⟩
theorem wkT_eq {X Y : List AObj} {N : Nat} {S : ASt} (e : X = Y) (hl : Y.length = N) (h : ∀ o ∈ Y, wkL [o.cut N] [o]) : wkT (trim N (X :: S)) (Y :: S) := by
  subst e
  exact wkT_self hl h
theorem wkT_dead {A : List AObj} {N : Nat} {S : ASt} (hl : A.length = N) : wkT (trim N (A :: S)) (List.replicate N .dead :: S) := by
  have := wk_dead (List.map (AObj.cut N) (List.take N A))
  rw [List.length_map, List.length_take, hl, Nat.min_self] at this
  exact ⟨this, rfl⟩
end Go.Proofs.YtjkdpnnccaeepaaGreatDoor
