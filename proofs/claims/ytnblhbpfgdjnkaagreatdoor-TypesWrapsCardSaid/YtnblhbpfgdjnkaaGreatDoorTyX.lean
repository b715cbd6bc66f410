/- weftwaylaw08.TypesNone, TypesWraps in the logic over abstract values. The rows are in texts of their own. -/
import Derived.Test.YtnblhbpfgdjnkaaGreatDoorTyW
import Derived.Test.YtnblhbpfgdjnkaaGreatDoorMR3
import Derived.Test.YtnblhbpfgdjnkaaGreatDoorMR3
import Derived.Test.YtnblhbpfgdjnkaaGreatDoorMWp
namespace Go.Proofs.YtnblhbpfgdjnkaaGreatDoor
open Go.RowKit
attribute [local simp] List.replicate List.range List.range.loop resA resOne retA
set_option linter.unusedVariables false
set_option linter.unusedSimpArgs false

theorem long_sm {p : List It} {t : Ty} {l : List ByteArray} (h : long08 p t l = false) : PrSm p ∧ TySm t := by
  unfold long08 at h
  simp only [Bool.or_eq_false_iff, decide_eq_false_iff_not] at h
  exact ⟨pr_sm h.1, ty_sm t 20000 (by omega) (by omega) (by omega)⟩
theorem plain_step {p : List It} {t : Ty} {s : ByteArray} (h : t.kind = 1 ∨ t.kind = 2 ∨ t.kind = 3 ∨ t.kind = 10) : stepT p t s = none := by
  unfold stepT
  rw [if_neg (by omega), if_neg (by omega), if_neg (by omega)]
theorem walk_one {p : List It} {t : Ty} {s : ByteArray} : walkT p t [s] = if t.whole 40 = true then (stepT p t s).map fun r => (r.1, true && !r.2) else none := by
  unfold walkT
  simp only [walkF]
  split
  · cases stepT p t s <;> rfl
  · rfl
set_option maxRecDepth 100000 in
set_option maxHeartbeats 16000000 in
theorem typesNoneC (p : List It) (t : Ty) (s : ByteArray) (S : ASt) : ADet Tryz.prog 5 [.agg [.p (prog p)], tyV t, Sg s] S (B true) S := by
  have lC := fun (d i : Nat) S => ADet.sub (.cons (.refl _) (.cons (.refl _) (.cons (.osl (d := d) (i := i) (.refl _)) (.refl _)))) (long08C p t [s] S)
  simp only [strs, List.map_cons, List.map_nil] at lC
  refine ADet.intro mixed Tryz.call5 Tryz.func5 rfl ?_
  simp [Tryz.ntmps5]
  refine ⟨_, _, awake08C _, ?_⟩
  simp
  refine ⟨_, _, lC _ _ _, ?_⟩
  cases hl : long08 p t [s] with
  | true => simp
  | false =>
  obtain ⟨hp, ht⟩ := long_sm hl
  have rC := fun S => rTypeC t ht 40 S (by omega) (by omega)
  have wC := fun S => ADet.sub (.cons (.refl _) (.cons (.refl _) (.cons (.p (.nil 1)) (.refl _)))) (walkC p hp t ht [] S)
  have sC := fun S => tyStepC p hp t ht s S
  have eC := fun S => sameTypeC t S
  have hw0 : walkT p t [] = if t.whole 40 = true then some (t, true) else none := rfl
  rw [hw0] at wC
  rw [walk_one] at sC
  simp
  refine ⟨_, _, rC _, ?_⟩
  cases hw : t.whole 40 with
  | false =>
    simp only [hw, Bool.false_eq_true, if_false, walkR] at wC sC
    simp
    refine ⟨_, _, wC _, ?_⟩
    simp
    refine ⟨_, _, sC _, ?_⟩
    by_cases h1 : t.kind = 1
    · simp [h1]
    · have h1' : (t.kind == 1) = false := by simpa using h1
      by_cases h2 : t.kind = 2
      · simp [h2]
      · have h2' : (t.kind == 2) = false := by simpa using h2
        by_cases h3 : t.kind = 3
        · simp [h3]
        · have h3' : (t.kind == 3) = false := by simpa using h3
          simp [h1', h2', h3']
  | true =>
    simp only [hw, if_true, walkR] at wC sC
    simp
    refine ⟨_, _, wC _, ?_⟩
    simp
    refine ⟨_, _, eC _, ?_⟩
    simp
    refine ⟨_, _, sC _, ?_⟩
    by_cases hpl : t.kind = 1 ∨ t.kind = 2 ∨ t.kind = 3 ∨ t.kind = 10
    · rw [plain_step hpl]
      rcases hpl with h | h | h | h <;> simp [h]
    · have h1 : (t.kind == 1) = false := by simpa using fun h => hpl (.inl h)
      have h2 : (t.kind == 2) = false := by simpa using fun h => hpl (.inr (.inl h))
      have h3 : (t.kind == 3) = false := by simpa using fun h => hpl (.inr (.inr (.inl h)))
      have h4 : (t.kind == 10) = false := by simpa using fun h => hpl (.inr (.inr (.inr h)))
      cases stepT p t s with
      | none => simp [h1, h2, h3, h4]
      | some r => simp [h1, h2, h3, h4]
theorem wrap_whole (k : Int) (hk : 5 ≤ k ∧ k ≤ 14 ∧ k ≠ 10) (t : Ty) : (Ty.mk k emS [t]).whole 40 = t.whole 39 := by
  have e3 : sEq (Ty.mk k emS [t]).name emS = true := sEq_iff.2 rfl
  have hp : plainKind (Ty.mk k emS [t]).kind = false := by
    show plainKind k = false
    simp [plainKind]; omega
  have h4 : ¬ (Ty.mk k emS [t]).kind = 4 := by
    show ¬ k = 4
    omega
  have e1 : decide (1 ≤ (Ty.mk k emS [t]).kind) = true := decide_eq_true (by show 1 ≤ k; omega)
  have e2 : decide ((Ty.mk k emS [t]).kind ≤ 14) = true := decide_eq_true (by show k ≤ 14; omega)
  rw [whole_eq, if_neg (by rw [hp]; decide), if_neg h4, e1, e2, e3]
  simp [mk_args8]
def leadsW (k : Int) (t : Ty) : Option (Ty × Bool) := if k = 5 ∨ k = 14 then some (t, true) else if k = 7 ∨ k = 8 ∨ k = 13 then some (t, false) else none
theorem wrap_walk (k : Int) (hk : 5 ≤ k ∧ k ≤ 14 ∧ k ≠ 10) (t : Ty) (h : t.whole 39 = true) : walkT [] (.mk k emS [t]) [(⟨#[42]⟩ : ByteArray)] = leadsW k t ∧ walkT [] (.mk k emS [t]) [(⟨#[97]⟩ : ByteArray)] = none := by
  have h1 : sEq (⟨#[42]⟩ : ByteArray) starS = true := sEq_iff.2 rfl
  have h2 : sEq (⟨#[97]⟩ : ByteArray) starS = false := by decide +kernel
  rw [walk_one, walk_one, wrap_whole k hk, h, if_pos rfl, if_pos rfl]
  have hs : ∀ s, stepT [] (.mk k emS [t]) s = if k = 7 ∨ k = 8 ∨ k = 13 then ptrT true (.mk k emS [t]) s else if k = 5 ∨ k = 14 then ptrT false (.mk k emS [t]) s else none := fun s => by
    unfold stepT
    rw [if_neg (show ¬ (Ty.mk k emS [t]).kind = 4 from by show ¬ k = 4; omega)]
    rfl
  rw [hs, hs]
  unfold ptrT leadsW
  rw [h1, h2]
  simp only [mk_args8, List.head?_cons, Option.map_some, if_true, Bool.false_eq_true, if_false]
  constructor
  · by_cases ha : k = 7 ∨ k = 8 ∨ k = 13
    · rw [if_pos ha, if_neg (by omega), if_pos ha]; rfl
    · rw [if_neg ha]
      by_cases hb : k = 5 ∨ k = 14
      · rw [if_pos hb, if_pos hb]; rfl
      · rw [if_neg hb, if_neg hb, if_neg ha]; rfl
  · by_cases ha : k = 7 ∨ k = 8 ∨ k = 13
    · rw [if_pos ha]; rfl
    · rw [if_neg ha]; simp
set_option maxRecDepth 100000 in
set_option maxHeartbeats 16000000 in
theorem typesWrapsC (t : Ty) (k : Int) (S : ASt) : ADet Tryz.prog 4 [tyV t, U k] S (B true) S := by
  have gC := fun S => greatTypeC t S
  refine ADet.intro mixed Tryz.call4 Tryz.func4 rfl ?_
  simp [Tryz.ntmps4]
  refine ⟨_, _, awake08C _, ?_⟩
  simp
  refine ⟨_, _, gC _, ?_⟩
  by_cases hg : t.room 20000 < 0
  · simp [hg]
  have ht : TySm t := ty_sm t 20000 (by omega) (by omega) (by omega)
  have rC := fun S => rTypeC t ht 39 S (by omega) (by omega)
  simp [hg]
  refine ⟨_, _, rC _, ?_⟩
  cases hw : t.whole 39 with
  | false => simp
  | true =>
  by_cases h5 : k < 5
  · simp [h5]
  by_cases h14 : 14 < k
  · simp [h5, h14]
  by_cases h10 : k = 10
  · simp [h10]
  have hk : 5 ≤ k ∧ k ≤ 14 ∧ k ≠ 10 := ⟨by omega, by omega, h10⟩
  obtain ⟨q1, q2⟩ := wrap_walk k hk t hw
  have nC : PrSm [] := ⟨by simp, by simp⟩
  have wC := fun S => wrap08C k t S
  have lC := fun (d i : Nat) S => ADet.sub (.cons (.agg (.cons (.p (.nil 16)) (.refl _))) (.cons (.refl _) (.cons (.osl (d := d) (i := i) (.refl _)) (.refl _)))) (walkC [] nC (.mk k emS [t]) (wrap_sm k ht) [(⟨#[42]⟩ : ByteArray)] S)
  have sC := fun S => ADet.sub (.cons (.agg (.cons (.p (.nil 16)) (.refl _))) (.cons (.refl _) (.cons (.refl _) (.refl _)))) (tyStepC [] nC (.mk k emS [t]) (wrap_sm k ht) (⟨#[97]⟩ : ByteArray) S)
  have eC := fun S => sameTypeC t S
  rw [q1] at lC
  rw [q2] at sC
  simp only [tyV, mk_kind8, mk_name8, mk_args8, strs, List.map_cons, List.map_nil, tyEnc] at wC lC sC
  have h5' : ¬ k < 5 := h5
  have h10' : (k == 10) = false := by simpa using h10
  have hc : k = 5 ∨ k = 6 ∨ k = 7 ∨ k = 8 ∨ k = 9 ∨ k = 11 ∨ k = 12 ∨ k = 13 ∨ k = 14 := by omega
  clear q1 q2
  rcases hc with rfl | rfl | rfl | rfl | rfl | rfl | rfl | rfl | rfl
  all_goals
    simp [leadsW, walkR] at lC
    simp
    refine ⟨_, _, wC _, ?_⟩
    simp
    refine ⟨_, _, lC _ _ _, ?_⟩
    simp
  all_goals
    refine ⟨_, _, wC _, ?_⟩
    simp
    refine ⟨_, _, sC _, ?_⟩
    simp
    refine ⟨_, _, eC _, ?_⟩
    simp
end Go.Proofs.YtnblhbpfgdjnkaaGreatDoor
