/- weftwaylaw07.TablesStands returns true for every type, and leaves it as it is: the row, the tied card. -/
import Derived.Test.YtkgpkbclfncnfaaDoorRows
import Derived.Test.YtkgpkbclfncnfaaDoorTie
import Derived.Test.YtkgpkbclfncnfaaDoorCards
import Derived.Test.YtkgpkbclfncnfaaDoorStandsR
import Derived.Test.YtkgpkbclfncnfaaDoorWholeT
import Derived.Test.YtkgpkbclfncnfaaDoorRoom
import Derived.Test.YtkgpkbclfncnfaaDoorOpen
import Derived.WalkKit
import Derived.ProofKit
import Derived.OpenShut
import Derived.Deep.DeepHandedRow
import Derived.Deep.DeepWitnessRowRef
import Derived.Lib.LaidTab
namespace Go.Proofs.YtkgpkbclfncnfaaDoor
open Go.ChangeShapes Go.WideShapes Go.ChangeAt Go.RowKit
set_option linter.unusedVariables false

-- tables.Stands
set_option maxHeartbeats 400000 in
theorem tabStands_any (t : Ty) (S : Nat → Prop) (f : Nat → Value) (w : World) (h : TyIn w S t f) (ht : Tab w) :
    Calls Tryd.prog 5 #[.agg #[f 0, f 1, f 2]] w fun e w' => e = .returned (.bool (t.whole 40 && t.standsP)) ∧ Below w.heap.size w w' := by
  have s0 := fun a w => run_store Tryd.prog w a (f 0) .plain (h.one 0 (by omega))
  have s1 := fun a w => run_store Tryd.prog w a (f 1) .plain (h.one 1 (by omega))
  have s2 := fun a w => run_store Tryd.prog w a (f 2) .plain (h.one 2 (by omega))
  have hb0 : Hid (∀ o, Below w.heap.size w (w.alloc o)) := fun o => (Below.refl _ _).alloc (Nat.le_refl _) o
  have H1 := Lib.hid (fun o => whole_any t S f (w.alloc o) (h.mono (Keeps.of_below (hb0.out o)) (fun _ h => h)) (ht.below (hb0.out o)))
  have H2 := Lib.hid (fun w1 (hb : Below w.heap.size w w1) => standsP_any t S f w1 (h.mono (Keeps.of_below hb) (fun _ h => h)))
  clear h ht
  cases hw : t.whole 40 with
  | false =>
    rw [hw] at H1
    clear hw
    go_enter Tryd.func5, Tryd.ntmps5
    go_wp2_with (go_at_call 9; refine (H1.out _).mono ?_; rintro e w1 ⟨rfl, hb⟩)
    go_ret
    exact ⟨rfl, (hb0.out _).trans (hb.mono (by simp))⟩
  | true =>
    rw [hw] at H1
    clear hw
    go_enter Tryd.func5, Tryd.ntmps5
    go_wp2_with fail
    refine (H1.out _).mono ?_
    rintro e w1 ⟨rfl, hb⟩
    have hb1 := (hb0.out _).trans (hb.mono (by simp))
    have k0 : w1.cell? ⟨w.heap.size, 0, none⟩ = some (f 0) := by rw [(bcell hb).1 _ _ (by simp)]; simp [go_sem]
    have k1 : w1.cell? ⟨w.heap.size, 1, none⟩ = some (f 1) := by rw [(bcell hb).1 _ _ (by simp)]; simp [go_sem]
    have k2 : w1.cell? ⟨w.heap.size, 2, none⟩ = some (f 2) := by rw [(bcell hb).1 _ _ (by simp)]; simp [go_sem]
    have hz := hb1.size
    clear hb
    go_wp2_with (go_at_call 10; refine (H2.out _ hb1).mono ?_; rintro e w2 ⟨rfl, hb2⟩)
    go_ret
    exact ⟨by simp, hb1.trans (hb2.mono hz)⟩

-- the statement's function
set_option maxHeartbeats 1000000 in
theorem tablesStands_any (t : Ty) (S : Nat → Prop) (f : Nat → Value) (w : World) (h : TyIn w S t f) (ht : Tab w) :
    Calls Tryd.prog 3 #[.agg #[f 0, f 1, f 2]] w fun e w' => e = .returned (.bool true) ∧ Below w.heap.size w w' := by
  have s0 := fun a w => run_store Tryd.prog w a (f 0) .plain (h.one 0 (by omega))
  have s1 := fun a w => run_store Tryd.prog w a (f 1) .plain (h.one 1 (by omega))
  have s2 := fun a w => run_store Tryd.prog w a (f 2) .plain (h.one 2 (by omega))
  have B0 : Hid (∀ o, Below w.heap.size w (w.alloc o)) := fun o => (Below.refl _ _).alloc (Nat.le_refl _) o
  have G : Hid (∀ w1, Below w.heap.size w w1 → TyIn w1 S t f) := fun w1 hb => h.mono (Keeps.of_below hb) (fun _ h => h)
  have HT : Hid (∀ w1, Below w.heap.size w w1 → Tab w1) := fun w1 hb => ht.below hb
  have Hsame := Lib.hid (stands_same t 40)
  clear h ht
  go_enter Tryd.func3, Tryd.ntmps3
  go_wp2_with fail
  have hb1 := B0.out (.cells #[f 0, f 1, f 2] 24)
  have hz1 : w.heap.size ≤ (w.alloc (.cells #[f 0, f 1, f 2] 24)).heap.size := hb1.size
  have hS : (w.alloc (.cells #[f 0, f 1, f 2] 24)).cell? ⟨w.heap.size, 0, none⟩ = some (f 0) ∧ (w.alloc (.cells #[f 0, f 1, f 2] 24)).cell? ⟨w.heap.size, 1, none⟩ = some (f 1) ∧ (w.alloc (.cells #[f 0, f 1, f 2] 24)).cell? ⟨w.heap.size, 2, none⟩ = some (f 2) := by
    refine ⟨?_, ?_, ?_⟩ <;> simp [go_sem]
  generalize w.alloc (.cells #[f 0, f 1, f 2] 24) = wa at *
  obtain ⟨c0, c1, c2⟩ := id hS
  cases hg : t.great with
  | true =>
    have hun : undef = Value.tuple #[] := rfl
    first
      | (go_region_law (first
      | (go_simp; go_at_call 4; refine (greatType_any t S f _ (G.out _ hb1.drew)).mono ?_; rw [hg]; rintro e w3 ⟨rfl, hb3⟩; replace hb3 := undrew hb3; obtain ⟨k0, k1, k2⟩ := keep3 hb3 hS; have hb4 := hb1.trans (hb3.mono hz1); have hz4 := hb4.size; clear hb3)))
      | fail "the region"
    all_goals
      go_wp2
      go_ret
      exact ⟨rfl, hb4⟩
  | false =>
    cases hw : t.whole 40 with
    | false =>
      go_region_law (first
        | (go_simp; go_at_call 4; refine (greatType_any t S f _ (G.out _ hb1.drew)).mono ?_; rw [hg]; rintro e w3 ⟨rfl, hb3⟩; replace hb3 := undrew hb3; obtain ⟨k0, k1, k2⟩ := keep3 hb3 hS; have hb4 := hb1.trans (hb3.mono hz1); have hz4 := hb4.size; clear hb3)
        | (go_simp; go_at_call 5; refine (tabStands_any t S f _ (G.out _ hb4) (HT.out _ hb4)).mono ?_; rw [hw]; rintro e w5 ⟨rfl, hb5⟩; replace k0 := keepc hb5 k0; replace k1 := keepc hb5 k1; replace k2 := keepc hb5 k2; have hb6 := hb4.trans (hb5.mono hz4); have hz6 := hb6.size; clear hb5)
        | (go_simp; go_at_call 6; refine (ref03Type_any t S f 40 _ (G.out _ hb6) (by omega) (by omega)).mono ?_; rw [hw]; rintro e w7 ⟨rfl, hb7⟩; replace k0 := keepc hb7 k0; replace k1 := keepc hb7 k1; replace k2 := keepc hb7 k2; have hb8 := hb6.trans (hb7.mono hz6); have hz8 := hb8.size; clear hb7))
      all_goals
        go_wp2
        go_ret
        exact ⟨rfl, hb8⟩
    | true =>
      have hsm := Hsame.out hw
      go_region_law (first
        | (go_simp; go_at_call 4; refine (greatType_any t S f _ (G.out _ hb1.drew)).mono ?_; rw [hg]; rintro e w3 ⟨rfl, hb3⟩; replace hb3 := undrew hb3; obtain ⟨k0, k1, k2⟩ := keep3 hb3 hS; have hb4 := hb1.trans (hb3.mono hz1); have hz4 := hb4.size; clear hb3)
        | (go_simp; go_at_call 5; refine (tabStands_any t S f _ (G.out _ hb4) (HT.out _ hb4)).mono ?_; rw [hw, hsm, Bool.true_and]; rintro e w5 ⟨rfl, hb5⟩; replace k0 := keepc hb5 k0; replace k1 := keepc hb5 k1; replace k2 := keepc hb5 k2; have hb6 := hb4.trans (hb5.mono hz4); have hz6 := hb6.size; clear hb5)
        | (go_simp; go_at_call 6; refine (ref03Type_any t S f 40 _ (G.out _ hb6) (by omega) (by omega)).mono ?_; rw [hw]; rintro e w7 ⟨rfl, hb7⟩; replace k0 := keepc hb7 k0; replace k1 := keepc hb7 k1; replace k2 := keepc hb7 k2; have hb8 := hb6.trans (hb7.mono hz6); have hz8 := hb8.size; clear hb7)
        | (go_simp; go_at_call 7; refine (standsR_any t S f _ (G.out _ hb8)).mono ?_; rintro e w9 ⟨rfl, hb9⟩; replace k0 := keepc hb9 k0; replace k1 := keepc hb9 k1; replace k2 := keepc hb9 k2; have hb10 := hb8.trans (hb9.mono hz8); clear hb9))
      all_goals
        go_wp2
        go_ret
        refine ⟨?_, hb10⟩
        generalize t.standsR = b
        cases b <;> rfl
end Go.Proofs.YtkgpkbclfncnfaaDoor
