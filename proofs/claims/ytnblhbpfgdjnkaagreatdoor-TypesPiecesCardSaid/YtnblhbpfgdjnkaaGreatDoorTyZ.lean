/- Ways of two pieces, in plain words. No statement is proved here. -/
import Derived.Test.YtnblhbpfgdjnkaaGreatDoorMTy
import Derived.Test.YtnblhbpfgdjnkaaGreatDoorMWp
namespace Go.Proofs.YtnblhbpfgdjnkaaGreatDoor
open Go.RowKit
set_option linter.unusedVariables false
set_option linter.unusedSimpArgs false
theorem allUp_eqZ {α : Type} (p : α → Bool) (l : List α) (m : Int) : allUp p l m = (decide ((l.length : Int) ≤ m) && l.all p) := by
  by_cases h : (l.length : Int) ≤ m
  · rw [allUp_all h]; simp [h]
  · simp [allUp, h]
theorem field_whole {p : List It} (hp : prWhole p = true) {nm s : ByteArray} {u : Ty} {c : Bool} (h : fieldT1 ((struct1T p nm).getD []) s = some (u, c)) : u.whole 40 = true := by
  unfold fieldT1 at h
  obtain ⟨f, hf, he⟩ := Option.map_eq_some_iff.1 h
  cases he
  have hm := List.mem_of_find?_eq_some hf
  unfold struct1T at hm
  cases hx : firstIt p nm with
  | none => rw [hx] at hm; simp at hm
  | some x =>
    rw [hx] at hm
    simp only at hm
    split at hm
    · rename_i hk
      have hxm : x ∈ p := List.mem_of_find?_eq_some hx
      have hw : x.whole 39 = true := by
        have h1 := hp
        unfold prWhole at h1
        rw [allUp_eqZ] at h1
        simp only [Bool.and_eq_true, List.all_eq_true] at h1
        exact h1.2 x hxm
      unfold It.whole at hw
      rw [if_pos (.inl hk), allUp_eqZ] at hw
      simp only [Bool.and_eq_true, List.all_eq_true] at hw
      have h2 := hw.2.2 f (by simpa using hm)
      unfold fieldB at h2
      simp only [hk, Bool.and_eq_true, Bool.or_eq_true] at h2
      rcases h2.2 with h3 | h3
      · exact absurd h3.1 (by decide)
      · exact tyWhole_mono f.type _ 40 (by omega) h3
    · simp at hm
theorem step_whole {p : List It} (hp : prWhole p = true) {t : Ty} (ht : t.whole 40 = true) {s : ByteArray} {u : Ty} {c : Bool} (hs : stepT p t s = some (u, c)) : u.whole 40 = true := by
  have hq : ∀ b, ptrT b t s = some (u, c) → u.whole 40 = true := fun b hb => by
    unfold ptrT at hb
    split at hb
    · obtain ⟨v, hv, he⟩ := Option.map_eq_some_iff.1 hb
      cases he
      rcases ty_cases ht with h | h | ⟨_, _, _, x, h1, h2⟩
      · rw [h.2] at hv; cases hv
      · rw [h.2] at hv; cases hv
      · rw [h1] at hv
        cases hv
        exact tyWhole_mono _ _ _ (by omega) h2
    · cases hb
  unfold stepT at hs
  split at hs
  · exact field_whole hp hs
  · split at hs
    · exact hq _ hs
    · split at hs
      · exact hq _ hs
      · cases hs
theorem walkF_whole {p : List It} (hp : prWhole p = true) : ∀ {l : List ByteArray} {t : Ty} {w : Bool} {r : Ty × Bool}, t.whole 40 = true → walkF p l t w = some r → r.1.whole 40 = true
  | [], t, w, r, ht, hw => by cases hw; exact ht
  | s :: l, t, w, r, ht, hw => by
    unfold walkF at hw
    cases hs : stepT p t s with
    | none => rw [hs] at hw; cases hw
    | some q =>
      obtain ⟨v, c⟩ := q
      rw [hs] at hw
      exact walkF_whole hp (step_whole hp ht hs) hw
theorem walk_none {p : List It} {t : Ty} {l : List ByteArray} (n : Nat) (h : walkT p t (l.take n) = none) : walkT p t l = none := by
  unfold walkT at h ⊢
  split
  · rename_i hw
    rw [if_pos hw] at h
    have := walkF_append p (l.take n) (l.drop n) t true
    rw [List.take_append_drop, h] at this
    exact this
  · rfl
theorem walk_some {p : List It} (hp : prWhole p = true) {t : Ty} {l : List ByteArray} (n : Nat) {u : Ty} {x : Bool} (h : walkT p t (l.take n) = some (u, x)) : walkT p t l = (walkT p u (l.drop n)).map fun z => (z.1, x && z.2) := by
  unfold walkT at h
  split at h
  · rename_i hw
    have h1 := walkF_append p (l.take n) (l.drop n) t true
    rw [List.take_append_drop, h] at h1
    have hu : u.whole 40 = true := walkF_whole hp hw h
    unfold walkT
    rw [if_pos hw, if_pos hu, h1]
    exact walkF_w p _ u x
  · cases h
theorem walkT_sm {p : List It} (h : PrSm p) {t : Ty} {l : List ByteArray} {r : Ty × Bool} (ht : TySm t) (hw : walkT p t l = some r) : TySm r.1 := by
  unfold walkT at hw
  split at hw
  · exact walkF_sm h ht hw
  · cases hw
end Go.Proofs.YtnblhbpfgdjnkaaGreatDoor
