/- weftwaylaw08.TypesKinds returns true for every two types, and leaves them as they are. No condition. -/
import Derived.Test.YtkgpkbclfncnfaaRows
import Derived.Test.YtkgpkbclfncnfaaOwn
import Derived.Test.YtkgpkbclfncnfaaSameT
import Derived.Test.YtkgpkbclfncnfaaRoom
import Derived.Test.YtkgpkbclfncnfaaOpen
import Derived.ProofKit
namespace Go.Proofs.Ytkgpkbclfncnfaa
open Go.ChangeShapes Go.WideShapes Go.ChangeAt Go.RowKit
set_option linter.unusedVariables false

-- types.Copied
set_option maxHeartbeats 400000 in
theorem typesCopied_any (t : Ty) (lo : Nat) (f : Nat → Value) (w : World) (h : TyIn w lo t f) :
    Calls Try.prog 14 #[.agg #[f 0, f 1, f 2]] w fun e w' => e = .returned (.bool t.copied) ∧ Below w.heap.size w w' := by
  obtain ⟨h0, hk0, hk1, h1, hs, hsl⟩ := TyIn.iff.1 h
  obtain ⟨A, cap, h2, hl, hc, _⟩ := hsl.open_
  rw [h0, h1, h2]
  clear h0 h1 h2 hsl h
  have hcp : t.copied = (t.kind == 1 || t.kind == 2 || t.kind == 3 || t.kind == 13) := rfl
  generalize t.copied = c at *
  go_enter Try.func14, Try.ntmps14
  go_wp2
  all_goals go_ret
  all_goals exact ⟨by simp [*], (Below.refl _ _).alloc (Nat.le_refl _) _⟩

-- weftwayref08.Copied
set_option maxHeartbeats 400000 in
theorem refCopied_any (t : Ty) (lo : Nat) (f : Nat → Value) (w : World) (h : TyIn w lo t f) :
    Calls Try.prog 15 #[.agg #[f 0, f 1, f 2]] w fun e w' => e = .returned (.bool t.copied) ∧ Below w.heap.size w w' := by
  obtain ⟨h0, hk0, hk1, h1, hs, hsl⟩ := TyIn.iff.1 h
  obtain ⟨A, cap, h2, hl, hc, _⟩ := hsl.open_
  rw [h0, h1, h2]
  clear h0 h1 h2 hsl h
  have hcp : t.copied = (t.kind == 1 || t.kind == 2 || t.kind == 3 || t.kind == 13) := rfl
  generalize t.copied = c at *
  go_enter Try.func15, Try.ntmps15
  go_wp2
  all_goals go_ret
  all_goals exact ⟨by simp [*], (Below.refl _ _).alloc (Nat.le_refl _) _⟩

-- types.Same
set_option maxHeartbeats 400000 in
theorem typesSame_any (t u : Ty) (lo lo' : Nat) (f f' : Nat → Value) (w : World) (h : TyIn w lo t f) (h' : TyIn w lo' u f') :
    Calls Try.prog 16 #[.agg #[f 0, f 1, f 2], .agg #[f' 0, f' 1, f' 2]] w fun e w' => e = .returned (.bool (t.same u)) ∧ Below w.heap.size w w' := by
  have s0 := fun a w => run_store Try.prog w a (f 0) .plain (h.one 0 (by omega))
  have s1 := fun a w => run_store Try.prog w a (f 1) .plain (h.one 1 (by omega))
  have s2 := fun a w => run_store Try.prog w a (f 2) .plain (h.one 2 (by omega))
  have s0' := fun a w => run_store Try.prog w a (f' 0) .plain (h'.one 0 (by omega))
  have s1' := fun a w => run_store Try.prog w a (f' 1) .plain (h'.one 1 (by omega))
  have s2' := fun a w => run_store Try.prog w a (f' 2) .plain (h'.one 2 (by omega))
  have hb : ∀ o o', Below w.heap.size w ((w.alloc o).alloc o') := fun o o' => ((Below.refl _ _).alloc (Nat.le_refl _) _).alloc (by simp) _
  have Hb := Lib.hid hb
  clear hb
  go_enter Try.func16, Try.ntmps16
  go_wp2_with (go_at_call 28; refine (treeSameType_any t u lo lo' f f' _ (h.mono (Holds.of_below (Hb.out _ _)) (Nat.le_refl _)) (h'.mono (Holds.of_below (Hb.out _ _)) (Nat.le_refl _))).mono ?_; rintro e w1 ⟨rfl, hb1⟩)
  go_ret
  exact ⟨rfl, (Hb.out _ _).trans (hb1.mono (by simp; omega))⟩

-- the statement's function
set_option maxHeartbeats 1000000 in
theorem typesKinds_any (t u : Ty) (lo lo' : Nat) (f f' : Nat → Value) (w : World) (h : TyIn w lo t f) (h' : TyIn w lo' u f') :
    Calls Try.prog 4 #[.agg #[f 0, f 1, f 2], .agg #[f' 0, f' 1, f' 2]] w fun e w' => e = .returned (.bool true) ∧ Below w.heap.size w w' := by
  have s0 := fun a w => run_store Try.prog w a (f 0) .plain (h.one 0 (by omega))
  have s1 := fun a w => run_store Try.prog w a (f 1) .plain (h.one 1 (by omega))
  have s2 := fun a w => run_store Try.prog w a (f 2) .plain (h.one 2 (by omega))
  have s0' := fun a w => run_store Try.prog w a (f' 0) .plain (h'.one 0 (by omega))
  have s1' := fun a w => run_store Try.prog w a (f' 1) .plain (h'.one 1 (by omega))
  have s2' := fun a w => run_store Try.prog w a (f' 2) .plain (h'.one 2 (by omega))
  have G : Hid (∀ w1, Below w.heap.size w w1 → TyIn w1 lo t f ∧ TyIn w1 lo' u f') := fun w1 hb => ⟨h.mono (Holds.of_below hb) (Nat.le_refl _), h'.mono (Holds.of_below hb) (Nat.le_refl _)⟩
  have B0 : Hid (∀ o o', Below w.heap.size w ((w.alloc o).alloc o')) := fun o o' => ((Below.refl _ _).alloc (Nat.le_refl _) _).alloc (by simp) _
  clear h h'
  cases hgt : t.great with
  | true =>
    go_enter Try.func4, Try.ntmps4
    go_wp2_with (go_at_call 11; refine (greatType_any t lo f _ (G.out _ (B0.out _ _)).1).mono ?_; rw [hgt]; rintro e w1 ⟨rfl, hb1⟩)
    go_ret
    exact ⟨rfl, (B0.out _ _).trans (hb1.mono (by simp; omega))⟩
  | false =>
    cases hgu : u.great with
    | true =>
      go_enter Try.func4, Try.ntmps4
      go_wp2_with fail
      refine (greatType_any t lo f _ (G.out _ (B0.out _ _)).1).mono ?_
      rw [hgt]
      rintro e w1 ⟨rfl, hb1⟩
      have hb2 := (B0.out _ _).trans (hb1.mono (by simp; omega))
      have hz := hb1.size
      obtain ⟨hc1, hf1⟩ := bcell hb1
      go_wp2_with fail
      refine (greatType_any u lo' f' _ (G.out _ hb2).2).mono ?_
      rw [hgu]
      rintro e w3 ⟨rfl, hb3⟩
      go_wp2
      go_ret
      exact ⟨rfl, hb2.trans (hb3.mono (by simp at hz; omega))⟩
    | false =>
      go_enter Try.func4, Try.ntmps4
      go_wp2_with fail
      refine (greatType_any t lo f _ (G.out _ (B0.out _ _)).1).mono ?_
      rw [hgt]
      rintro e w1 ⟨rfl, hb1⟩
      have hb2 := (B0.out _ _).trans (hb1.mono (by simp; omega))
      have hz := hb1.size
      have k0 : w1.cell? ⟨w.heap.size, 0, none⟩ = some (f 0) := by rw [(bcell hb1).1 _ _ (by simp; omega)]; simp [go_sem]
      have k1 : w1.cell? ⟨w.heap.size, 1, none⟩ = some (f 1) := by rw [(bcell hb1).1 _ _ (by simp; omega)]; simp [go_sem]
      have k2 : w1.cell? ⟨w.heap.size, 2, none⟩ = some (f 2) := by rw [(bcell hb1).1 _ _ (by simp; omega)]; simp [go_sem]
      have k3 : w1.cell? ⟨w.heap.size + 1, 0, none⟩ = some (f' 0) := by rw [(bcell hb1).1 _ _ (by simp)]; simp [go_sem]
      have k4 : w1.cell? ⟨w.heap.size + 1, 1, none⟩ = some (f' 1) := by rw [(bcell hb1).1 _ _ (by simp)]; simp [go_sem]
      have k5 : w1.cell? ⟨w.heap.size + 1, 2, none⟩ = some (f' 2) := by rw [(bcell hb1).1 _ _ (by simp)]; simp [go_sem]
      simp at hz
      have hz0 := hb2.size
      clear hb1 B0
      go_wp2_with fail
      refine (greatType_any u lo' f' _ (G.out _ hb2).2).mono ?_
      rw [hgu]
      rintro e w3 ⟨rfl, hb3⟩
      replace k0 := keepc hb3 k0
      replace k1 := keepc hb3 k1
      replace k2 := keepc hb3 k2
      replace k3 := keepc hb3 k3
      replace k4 := keepc hb3 k4
      replace k5 := keepc hb3 k5
      have hb4 : Below w.heap.size w w3 := hb2.trans (hb3.mono (by omega))
      have hz3 := hb3.size
      have hz4 : w.heap.size ≤ w3.heap.size := by omega
      clear hb3 hb2
      have hS := And.intro k0 (And.intro k1 (And.intro k2 (And.intro k3 (And.intro k4 k5))))
      go_wp2_with fail
      go_region_held3 (fun w' => w'.cell? ⟨w.heap.size, 0, none⟩ = some (f 0) ∧ w'.cell? ⟨w.heap.size, 1, none⟩ = some (f 1) ∧ w'.cell? ⟨w.heap.size, 2, none⟩ = some (f 2)
          ∧ w'.cell? ⟨w.heap.size + 1, 0, none⟩ = some (f' 0) ∧ w'.cell? ⟨w.heap.size + 1, 1, none⟩ = some (f' 1) ∧ w'.cell? ⟨w.heap.size + 1, 2, none⟩ = some (f' 2))
        (exact hS)
        (first
          | (go_at_call 12; refine (typesOwned_any t lo f _ (G.out _ hb4.drew).1).mono ?_; rintro e w5 ⟨rfl, hb5⟩; replace hb5 := undrew hb5; replace hS := keep6 hb5 hS; have hb6 := hb4.trans (hb5.mono hz4); have hz6 := hb6.size)
          | (go_at_call 13; refine (refOwned_any t lo f _ (G.out _ hb6).1).mono ?_; rintro e w7 ⟨rfl, hb7⟩; replace hS := keep6 hb7 hS; have hb8 := hb6.trans (hb7.mono hz6); have hz8 := hb8.size)
          | (go_at_call 14; refine (typesCopied_any t lo f _ (G.out _ hb8).1).mono ?_; rintro e w9 ⟨rfl, hb9⟩; replace hS := keep6 hb9 hS; have hb10 := hb8.trans (hb9.mono hz8); have hz10 := hb10.size)
          | (go_at_call 15; refine (refCopied_any t lo f _ (G.out _ hb10).1).mono ?_; rintro e w11 ⟨rfl, hb11⟩; replace hS := keep6 hb11 hS; have hb12 := hb10.trans (hb11.mono hz10); have hz12 := hb12.size)
          | (go_at_call 16; refine (typesSame_any t u lo lo' f f' _ (G.out _ hb12).1 (G.out _ hb12).2).mono ?_; rintro e w13 ⟨rfl, hb13⟩; replace hS := keep6 hb13 hS; have hb14 := hb12.trans (hb13.mono hz12); have hz14 := hb14.size)
          | (go_at_call 17; refine (refSameType_any t u lo lo' f f' _ (G.out _ hb14).1 (G.out _ hb14).2).mono ?_; rintro e w15 ⟨rfl, hb15⟩; replace hS := keep6 hb15 hS; have hb16 := hb14.trans (hb15.mono hz14)))
      go_wp2
      go_ret
      exact ⟨rfl, hb16⟩

set_option maxRecDepth 100000 in
theorem TypesKinds.lifted (os : Os) (started : os.Started) (H : Type) (enc : TypeId × Value → H) :
    ReturnsInHanded {} Try.checked os 4 .any (Rows.typesKindsSpec.pre6 enc Try.prog Try.f4 Rows.typesKindsRow.domain false) (Rows.typesKindsSpec.post enc Try.prog Try.f4 false true false false) := by
  refine returnsInHanded_of_change (C := Try.checked) own started (by kernel_rfl) Try.func4
    (ChangeSpec.witness6 (enc := enc) (C := Try.checked) false ⟨#[], #[.agg #[.int .u8 0, .string ⟨#[]⟩, .slice none 0 0], .agg #[.int .u8 0, .string ⟨#[]⟩, .slice none 0 0]], []⟩ 8 (by kernel_rfl) (by kernel_rfl) (by kernel_rfl) (by kernel_rfl)) ?_
  intro W base args ds gs before hval0 hW hcnd _
  have hval : ∀ (j : Nat) t v, Try.f4.params[j]? = some t → args[j]? = some v → Value.okWide Try.prog W .any base t v := hval0
  have hW' := hW
  obtain ⟨p, q, hA0, hV, rfl, hfz, hnd⟩ := hW
  have hA : DataW.TrodAll enc Try.prog W 0 (fun _ => true) true Try.f4.params.toList args.toList ds p := hA0
  rw [Try.params4] at hA hval
  obtain ⟨v0, v1, d0, d1, p0, p1, rfl, rfl, rfl, h0, h1⟩ := trodAll_two hA
  obtain ⟨rfl, rfl⟩ := trodVars_none hV
  have hfz' : ∀ b o, MemPlace.cell b o ∈ p0 ++ p1 → W.frozen? ⟨b, o, none⟩ = false := fun b o hm => hfz b o (by simpa using hm)
  obtain ⟨t, f, rfl, ht⟩ := open_param Try.underlying34 cells_Type opens_Type (hval 0 34 v0 rfl rfl) h0 fun b o hm => hfz' b o (List.mem_append_left _ hm)
  obtain ⟨u, g, rfl, hu⟩ := open_param Try.underlying34 cells_Type opens_Type (hval 1 34 v1 rfl rfl) h1 fun b o hm => hfz' b o (List.mem_append_right _ hm)
  refine (typesKinds_any t u 0 0 f g W ht hu).mono fun e W' ⟨he, hb⟩ => ?_
  subst he
  exact ⟨_, rfl, law_post laidOut (fun t ht => by rw [Try.params4] at ht; simp at ht; subst ht; exact readable_Type) hW' rfl rfl rfl Try.underlying4 hb⟩

theorem TypesKinds.proved : Rows.TypesKindsSaid :=
  OpenClaim.holds_of_wide 4 Try.f4 rfl rfl rfl rfl rfl rfl rfl ⟨rfl, rfl, rfl, rfl, rfl⟩ rfl rfl rfl rfl rfl (by kernel_rfl) Try.func4 (by kernel_rfl)
    (of_decide_eq_true (by kernel_rfl)) (by unfold Func.isWrapper; first | (rw [if_pos (by decide +kernel)]; kernel_rfl) | (rw [if_neg (by decide +kernel)]; exact ⟨rfl, rfl⟩))
    (fun os started H enc _ => TypesKinds.lifted os started H enc)
end Go.Proofs.Ytkgpkbclfncnfaa
