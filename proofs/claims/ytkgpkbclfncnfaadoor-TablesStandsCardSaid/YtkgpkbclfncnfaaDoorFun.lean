/- The library's slices.IndexFunc, ContainsFunc, EqualFunc at the program's types: what they do, whatever function they are handed. -/
import Derived.Test.YtkgpkbclfncnfaaDoorRows
import Derived.Test.YtkgpkbclfncnfaaDoorBase
namespace Go.Proofs.YtkgpkbclfncnfaaDoor
open Go.RowKit
set_option linter.unusedVariables false

/-- the place of the first element of which something holds, or -1 -/
def firstAt {α : Type} (p : α → Bool) : List α → Int
  | [] => -1
  | x :: l => if p x then 0 else if firstAt p l = -1 then -1 else firstAt p l + 1

theorem firstAt_spec {α : Type} (p : α → Bool) : ∀ l : List α, (firstAt p l = -1 ∧ ∀ i, (hi : i < l.length) → p l[i] = false) ∨ (∃ q : Nat, ∃ hq : q < l.length, firstAt p l = q ∧ p l[q] = true ∧ ∀ i, (hi : i < l.length) → i < q → p l[i] = false)
  | [] => .inl ⟨rfl, fun i hi => by simp at hi⟩
  | x :: l => by
    cases hx : p x with
    | true => exact .inr ⟨0, by simp, by simp [firstAt, hx], by simpa using hx, fun i _ h => by omega⟩
    | false =>
      rcases firstAt_spec p l with ⟨h1, h2⟩ | ⟨q, hq, h1, h2, h3⟩
      · refine .inl ⟨by simp [firstAt, hx, h1], fun i hi => ?_⟩
        cases i with
        | zero => simpa using hx
        | succ i => simpa using h2 i (by simpa using hi)
      · refine .inr ⟨q + 1, by simpa using hq, by simp only [firstAt, hx, h1, Bool.false_eq_true, if_false]; rw [if_neg (by omega)]; omega, by simpa using h2, fun i hi hlt => ?_⟩
        cases i with
        | zero => simpa using hx
        | succ i => simpa using h3 i (by simpa using hi) (by omega)
theorem firstAt_no {α : Type} {p : α → Bool} {l : List α} {q : Nat} (h : AllTo (fun x => p x = false) l q) (hq : l.length ≤ q) : firstAt p l = -1 := by
  rcases firstAt_spec p l with ⟨h1, _⟩ | ⟨k, hk, _, h2, _⟩
  · exact h1
  · have := h k hk (by omega)
    simp [h2] at this
theorem firstAt_yes {α : Type} {p : α → Bool} {l : List α} {q : Nat} (h : AllTo (fun x => p x = false) l q) (hq : q < l.length) (hp : p l[q] = true) : firstAt p l = q := by
  rcases firstAt_spec p l with ⟨_, h1⟩ | ⟨k, hk, h1, h2, h3⟩
  · have := h1 q hq; simp [hp] at this
  · rw [h1]
    rcases Nat.lt_trichotomy k q with hlt | rfl | hlt
    · have := h k hk hlt; simp [h2] at this
    · rfl
    · have := h3 q hq hlt; simp [hp] at this
theorem firstAt_any {α : Type} (p : α → Bool) (l : List α) : decide (0 ≤ firstAt p l) = l.any p := by
  rcases firstAt_spec p l with ⟨h1, h2⟩ | ⟨q, hq, h1, h2, _⟩
  · rw [h1, eq_comm]
    show l.any p = false
    rw [List.any_eq_false]
    intro x hx
    obtain ⟨i, hi, rfl⟩ := List.getElem_of_mem hx
    simp [h2 i hi]
  · rw [h1, eq_comm, List.any_eq_true.2 ⟨l[q], List.getElem_mem hq, h2⟩]
    simp
theorem firstAt_bound {α : Type} (p : α → Bool) (l : List α) (h : l.length ≤ 9223372036854775807) : -1 ≤ firstAt p l ∧ firstAt p l ≤ 9223372036854775807 := by
  rcases firstAt_spec p l with ⟨h1, _⟩ | ⟨q, hq, h1, _⟩ <;> omega

set_option maxHeartbeats 400000 in
theorem indexFunc_Type {α : Type} (R : α → (Nat → Value) → Prop) (p : α → Bool) (K : FuncId) (l : List α) (S : Nat → Prop) (v : Value) (w : World) (hs : RdSl w S 3 R l v)
    (C : Array Value) (hK : ∀ args w, (callFunc K args).run Tryd.prog w = .ok (.enter K args) w)
    (hp : ∀ i, (hi : i < l.length) → ∀ w1 g, Below w.heap.size w w1 → R l[i] g → Calls Tryd.prog K (#[.agg #[g 0, g 1, g 2]] ++ C) w1 fun e w' => e = .returned (.bool (p l[i])) ∧ Below w1.heap.size w1 w') :
    Calls Tryd.prog 26 #[v, .func (.func K) #[] C] w fun e w' => e = .returned (.int .i64 (firstAt p l)) ∧ Below w.heap.size w w' := by
  obtain ⟨A, cap, rfl, hl, hc, hel⟩ := hs.open_
  have Hp := Lib.hid hp
  clear hp
  go_enter Tryd.func26, Tryd.ntmps26
  go_wp2
  go_loopw [8] (fun i wr => ∃ q : Nat, q ≤ l.length ∧ i = .int .i64 q ∧ AllTo (fun x => p x = false) l q ∧ Below w.heap.size w wr)  (fun i _ => l.length - (intOf i).toNat)
  case atStart => exact ⟨0, Nat.zero_le _, rfl, AllTo.zero _ _, Below.refl _ _⟩
  case round =>
    obtain ⟨q, hq, rfl, hall, hb⟩ := hrel
    have hz := hb.size
    by_cases hlt : q < l.length
    · obtain ⟨b, off, rfl, _, g, hg, hcell⟩ := hel.out wr (Keeps.of_below hb) q hlt
      have d0 : wr.cell? ⟨b, off + q * 3, none⟩ = some (g 0) := (hcell 0 (by omega)).1
      have d1 := (hcell 1 (by omega)).1
      have d2 := (hcell 2 (by omega)).1
      clear hcell
      go_wp2_with fail
      refine (Hp.out q hlt wr g hb hg).mono ?_
      rintro e w1 ⟨rfl, hb1⟩
      go_wp2
      · have hn : p l[q] = true := by assumption
        go_ret
        exact ⟨by rw [firstAt_yes hall hlt hn]; rfl, hb.trans (hb1.mono (by omega))⟩
      · have hn : p l[q] = false := by assumption
        exact ⟨⟨q + 1, by omega, by go_num, hall.succ hlt hn, hb.trans (hb1.mono (by omega))⟩, by simp [intOf]; omega⟩
    · go_wp2
      go_ret
      exact ⟨by rw [firstAt_no hall (by omega)]; rfl, hb⟩

set_option maxHeartbeats 400000 in
theorem containsFunc_Type {α : Type} (R : α → (Nat → Value) → Prop) (p : α → Bool) (K : FuncId) (l : List α) (S : Nat → Prop) (v : Value) (w : World) (hs : RdSl w S 3 R l v)
    (C : Array Value) (hK : ∀ args w, (callFunc K args).run Tryd.prog w = .ok (.enter K args) w)
    (hp : ∀ i, (hi : i < l.length) → ∀ w1 g, Below w.heap.size w w1 → R l[i] g → Calls Tryd.prog K (#[.agg #[g 0, g 1, g 2]] ++ C) w1 fun e w' => e = .returned (.bool (p l[i])) ∧ Below w1.heap.size w1 w') :
    Calls Tryd.prog 20 #[v, .func (.func K) #[] C] w fun e w' => e = .returned (.bool (l.any p)) ∧ Below w.heap.size w w' := by
  have H := Lib.hid (indexFunc_Type R p K l S v w hs C hK hp)
  clear hp hK
  go_enter Tryd.func20, Tryd.ntmps20
  go_wp2_with (go_at_call 26; refine H.out.mono ?_; rintro e w1 ⟨rfl, hb⟩)
  go_ret
  exact ⟨by rw [← firstAt_any]; rfl, hb⟩

/-- are two lists, place for place, alike? -/
def eqAll {α β : Type} (p : α → β → Bool) : List α → List β → Bool
  | [], [] => true
  | x :: l, y :: l' => p x y && eqAll p l l'
  | _, _ => false
theorem eqAll_len {α β : Type} {p : α → β → Bool} : ∀ {l : List α} {l' : List β}, ¬ l.length = l'.length → eqAll p l l' = false
  | [], [], h => absurd rfl h
  | x :: l, y :: l', h => by simp only [eqAll]; rw [eqAll_len (by simpa using h)]; simp
  | [], _ :: _, _ => rfl
  | _ :: _, [], _ => rfl
/-- alike up to place q -/
def EqTo {α β : Type} (p : α → β → Bool) (l : List α) (l' : List β) (q : Nat) : Prop := ∀ i, (hi : i < l.length) → (hi' : i < l'.length) → i < q → p l[i] l'[i] = true
theorem EqTo.zero {α β : Type} (p : α → β → Bool) (l : List α) (l' : List β) : EqTo p l l' 0 := fun i _ _ h => by omega
theorem EqTo.succ {α β : Type} {p : α → β → Bool} {l : List α} {l' : List β} {q : Nat} (h : EqTo p l l' q) (hq : q < l.length) (hq' : q < l'.length) (hp : p l[q] l'[q] = true) : EqTo p l l' (q + 1) := fun i hi hi' hlt => by
  rcases Nat.lt_or_ge i q with h1 | h1
  · exact h i hi hi' h1
  · obtain rfl : i = q := by omega
    exact hp
theorem eqAll_no {α β : Type} {p : α → β → Bool} : ∀ {l : List α} {l' : List β} {q : Nat} (hq : q < l.length) (hq' : q < l'.length), p l[q] l'[q] = false → eqAll p l l' = false
  | x :: l, y :: l', 0, _, _, h => by simp only [eqAll]; rw [show p x y = false from h]; rfl
  | x :: l, y :: l', q + 1, hq, hq', h => by simp only [eqAll]; rw [eqAll_no (q := q) (by simpa using hq) (by simpa using hq') (by simpa using h)]; simp
theorem eqAll_yes {α β : Type} {p : α → β → Bool} : ∀ {l : List α} {l' : List β}, l.length = l'.length → (∀ i, (hi : i < l.length) → (hi' : i < l'.length) → p l[i] l'[i] = true) → eqAll p l l' = true
  | [], [], _, _ => rfl
  | x :: l, y :: l', hl, h => by
    simp only [eqAll]
    rw [show p x y = true from h 0 (by simp) (by simp), eqAll_yes (by simpa using hl) (fun i hi hi' => h (i + 1) (by simpa using hi) (by simpa using hi'))]
    rfl
theorem EqTo.all {α β : Type} {p : α → β → Bool} {l : List α} {l' : List β} {q : Nat} (h : EqTo p l l' q) (hl : l.length = l'.length) (hq : l.length ≤ q) : eqAll p l l' = true := eqAll_yes hl fun i hi hi' => h i hi hi' (by omega)

end Go.Proofs.YtkgpkbclfncnfaaDoor
