/- weftwaylaw07.TablesWithin in the logic over abstract values. The row is in a text of its own. -/
import Derived.Test.YtdnekbmnbblhgaaGreatDoorMTl
import Derived.Test.YtdnekbmnbblhgaaGreatDoorMWp
import Derived.Test.YtdnekbmnbblhgaaGreatDoorMOpen
namespace Go.Proofs.YtdnekbmnbblhgaaGreatDoor
open Go.RowKit
attribute [local simp] List.replicate List.range List.range.loop resA resOne retA AV.cuts AV.cut AObj.cut trim wkR wkT wkL wkN wkNR wkNL
set_option linter.unusedVariables false
set_option linter.unusedSimpArgs false

theorem mk_kind (k : Int) (s : ByteArray) (l : List Ty) : (Ty.mk k s l).kind = k := rfl
theorem mk_name (k : Int) (s : ByteArray) (l : List Ty) : (Ty.mk k s l).name = s := rfl
theorem mk_args (k : Int) (s : ByteArray) (l : List Ty) : (Ty.mk k s l).args = l := rfl
theorem whole_wrap (k : Int) (hk : k = 5 ∨ k = 6 ∨ k = 13) (t : Ty) : (Ty.mk k emS [t]).whole 40 = t.whole 39 := by
  have he : sEq emS emS = true := sEq_iff.2 rfl
  rcases hk with rfl | rfl | rfl <;> simp [Ty.whole, Ty.wholeAll, plainKind, he]
theorem may_part {t : Ty} (h : t.mayStand = true) : ∀ x ∈ t.args, x.mayStand = true := by
  unfold Ty.mayStand at h ⊢
  rw [Bool.and_eq_true] at h
  intro x hx
  rw [Bool.and_eq_true]
  constructor
  · rcases ty_cases h.1 with ⟨_, ha⟩ | ⟨_, ha⟩ | ⟨_, _, _, y, ha, hy⟩
    · rw [ha] at hx; cases hx
    · rw [ha] at hx; cases hx
    · rw [ha] at hx
      simp at hx
      subst hx
      exact tyWhole_mono _ _ _ (by omega) hy
  · have := h.2
    rw [stands_eq, List.all_eq_true] at this
    have := this x hx
    rw [Bool.and_eq_true] at this
    exact this.1
theorem stands_wrap (k : Int) (t : Ty) : (Ty.mk k emS [t]).stands = (t.stands && partOk k t) := by
  rw [stands_eq]; simp [Ty.args, Ty.kind]
theorem may_ref {t : Ty} (h : t.whole 39 = true) : (Ty.mk 13 emS [t]).mayStand = t.mayStand := by
  unfold Ty.mayStand
  rw [whole_wrap 13 (by omega), h, tyWhole_mono t 39 40 (by omega) h, stands_wrap]
  simp [partOk]
theorem may_box {t : Ty} (h : t.whole 39 = true) : (Ty.mk 5 emS [t]).mayStand = (t.mayStand && t.owned) := by
  unfold Ty.mayStand
  rw [whole_wrap 5 (by omega), h, tyWhole_mono t 39 40 (by omega) h, stands_wrap]
  simp [partOk]
theorem may_cell {t : Ty} (h : t.whole 39 = true) : (Ty.mk 6 emS [t]).mayStand = (t.mayStand && decide (t.kind = 1 ∨ t.kind = 2 ∨ t.kind = 3)) := by
  unfold Ty.mayStand
  rw [whole_wrap 6 (by omega), h, tyWhole_mono t 39 40 (by omega) h, stands_wrap]
  have key : (t.stands && partOk 6 t) = (t.stands && decide (t.kind = 1 ∨ t.kind = 2 ∨ t.kind = 3)) := by
    by_cases h3 : 3 < t.kind
    · have : ¬ (t.kind = 1 ∨ t.kind = 2 ∨ t.kind = 3) := by omega
      simp [partOk, h3, this]
    · rcases ty_cases h with ⟨hk, ha⟩ | ⟨hk, ha⟩ | ⟨hk, _⟩
      · have : t.kind = 1 ∨ t.kind = 2 ∨ t.kind = 3 := by omega
        have ho : t.owned = true := by rw [owned_eq, ha]; simp; omega
        simp [partOk, h3, this, ho]
      · omega
      · omega
  simp [key]
theorem tySm_wrap {t : Ty} (h : TySm t) (k : Int) : TySm (.mk k emS [t]) := .mk _ (by show (0 : Nat) ≤ _; omega) (by simp [Ty.args]) fun x hx => by
  simp [Ty.args] at hx; subst hx; exact h
set_option maxRecDepth 100000 in
set_option maxHeartbeats 16000000 in
theorem withinC (t : Ty) (S : ASt) : ADet Tryz.prog 4 [tyV t] S (B true) S := by
  refine ADet.okA Tryz.call4 0 2 rfl rfl fun hok => ?_
  have hlen := okl hok
  refine ADet.intro mixed Tryz.call4 Tryz.func4 rfl ?_
  simp [Tryz.ntmps4]
  refine ⟨_, _, awake07C _, ?_⟩
  simp
  refine ⟨_, _, greatTypeC t _, ?_⟩
  by_cases hgr : t.room 20000 < 0
  · simp [hgr]
  have hsm : TySm t := ty_sm t 20000 (by omega) (by omega) (by omega)
  have tC := fun S => standsTopC t hsm S
  have bW := fun S => wholeType40 (.mk 5 emS [t]) (tySm_wrap hsm 5) S
  have bC := fun S => standsTopC (.mk 5 emS [t]) (tySm_wrap hsm 5) S
  have rC := fun S => standsTopC (.mk 13 emS [t]) (tySm_wrap hsm 13) S
  have cC := fun S => standsTopC (.mk 6 emS [t]) (tySm_wrap hsm 6) S
  have aC : ∀ x ∈ t.args, ∀ S, ADet Tryz.prog 13 [tyV x] S (B x.mayStand) S := fun x hx S => standsTopC x (by obtain ⟨_, _, _, h⟩ := hsm; exact h x hx) S
  have fC := fun S => freeC t S
  have hpart : t.mayStand = true → ∀ x ∈ t.args, x.mayStand = true := may_part
  have hm3 : t.whole 39 = true → (Ty.mk 13 emS [t]).mayStand = t.mayStand ∧ (Ty.mk 5 emS [t]).mayStand = (t.mayStand && t.owned) ∧ (Ty.mk 6 emS [t]).mayStand = (t.mayStand && decide (t.kind = 1 ∨ t.kind = 2 ∨ t.kind = 3)) := fun h => ⟨may_ref h, may_box h, may_cell h⟩
  rw [whole_wrap 5 (by omega)] at bW
  generalize t.mayStand = m at *
  generalize t.owned = o at *
  generalize (Ty.mk 13 emS [t]).mayStand = mr at *
  generalize (Ty.mk 5 emS [t]).mayStand = mb at *
  generalize (Ty.mk 6 emS [t]).mayStand = mc at *
  simp only [tyV, mk_kind, mk_name, mk_args, List.map_cons, List.map_nil, tyEnc] at bW bC rC cC
  simp [hgr]
  refine ⟨_, _, tC _, ?_⟩
  cases m with
  | true =>
    simp
    refine awp_loop (fun q : Nat => q ≤ t.args.length) (fun q => ([.any, .ptr 0 0 0, .any, B true, I q] ++ List.replicate 75 .any)) (fun q => [.cells [U t.kind, Sg t.name, .p (.sl 3 (t.args.map Ty.enc))] 36] :: S) (fun q => t.args.length - q) 0 (Nat.zero_le _) ?_ ?_ ?_
    · simp
    · simp
    intro q hq
    by_cases hlt : q < t.args.length
    · have hlt' : (q : Int) < (t.args.length : Int) := by omega
      have hx := aC _ (List.getElem_mem hlt)
      rw [hpart rfl _ (List.getElem_mem hlt)] at hx
      generalize he : t.args[q] = x at *
      simp [hlt, hlt', he, tyEnc]
      refine ⟨_, _, hx _, ?_⟩
      simp
      exact ⟨q + 1, hlt, by omega, wrap_succ hlt⟩
    · have hlt' : ¬ (q : Int) < (t.args.length : Int) := by omega
      simp [hlt']
      refine ⟨_, _, ADet.sub (.cons (.agg (.cons (.refl _) (.cons (.refl _) (.cons (.osl (.refl _)) (.refl _))))) (.refl _)) (bW _), ?_⟩
      cases h39 : t.whole 39 with
      | false => simp
      | true =>
      obtain ⟨hr, hb, hc⟩ := hm3 h39
      subst hr hb hc
      simp
      refine ⟨_, _, ADet.sub (.cons (.agg (.cons (.refl _) (.cons (.refl _) (.cons (.osl (.refl _)) (.refl _))))) (.refl _)) (rC _), ?_⟩
      simp
      refine ⟨_, _, ADet.sub (.cons (.agg (.cons (.refl _) (.cons (.refl _) (.cons (.osl (.refl _)) (.refl _))))) (.refl _)) (cC _), ?_⟩
      by_cases hk : t.kind = 1 ∨ t.kind = 2 ∨ t.kind = 3
      · rcases hk with hk | hk | hk
        all_goals
          simp [hk]
          simp only [hk] at bC
          refine ⟨_, _, ADet.sub (.cons (.agg (.cons (.refl _) (.cons (.refl _) (.cons (.osl (.refl _)) (.refl _))))) (.refl _)) (bC _), ?_⟩
          simp
          simp only [tyV, hk] at fC
          refine ⟨_, _, fC _, ?_⟩
          simp
      · have n1 : (t.kind == 1) = false := by simpa using fun h => hk (.inl h)
        have n2 : (t.kind == 2) = false := by simpa using fun h => hk (.inr (.inl h))
        have n3 : (t.kind == 3) = false := by simpa using fun h => hk (.inr (.inr h))
        simp [n1, n2, n3, hk]
        refine ⟨_, _, ADet.sub (.cons (.agg (.cons (.refl _) (.cons (.refl _) (.cons (.osl (.refl _)) (.refl _))))) (.refl _)) (bC _), ?_⟩
        simp
        refine ⟨_, _, fC _, ?_⟩
        simp
  | false =>
    simp
    refine awp_loop (fun q : Nat => q ≤ t.args.length) (fun q => ([.any, .ptr 0 0 0, .any, B false, I q] ++ List.replicate 75 .any)) (fun q => [.cells [U t.kind, Sg t.name, .p (.sl 3 (t.args.map Ty.enc))] 36] :: S) (fun q => t.args.length - q) 0 (Nat.zero_le _) ?_ ?_ ?_
    · simp
    · simp
    intro q hq
    by_cases hlt : q < t.args.length
    · have hlt' : (q : Int) < (t.args.length : Int) := by omega
      simp [hlt, hlt']
      exact ⟨q + 1, hlt, by omega, wrap_succ hlt⟩
    · have hlt' : ¬ (q : Int) < (t.args.length : Int) := by omega
      simp [hlt']
      refine ⟨_, _, ADet.sub (.cons (.agg (.cons (.refl _) (.cons (.refl _) (.cons (.osl (.refl _)) (.refl _))))) (.refl _)) (bW _), ?_⟩
      cases h39 : t.whole 39 with
      | false => simp
      | true =>
      obtain ⟨hr, hb, hc⟩ := hm3 h39
      subst hr hb hc
      simp
      refine ⟨_, _, ADet.sub (.cons (.agg (.cons (.refl _) (.cons (.refl _) (.cons (.osl (.refl _)) (.refl _))))) (.refl _)) (rC _), ?_⟩
      simp
      refine ⟨_, _, ADet.sub (.cons (.agg (.cons (.refl _) (.cons (.refl _) (.cons (.osl (.refl _)) (.refl _))))) (.refl _)) (cC _), ?_⟩
      by_cases hk : t.kind = 1 ∨ t.kind = 2 ∨ t.kind = 3
      · rcases hk with hk | hk | hk
        all_goals
          simp [hk]
          simp only [hk] at bC
          refine ⟨_, _, ADet.sub (.cons (.agg (.cons (.refl _) (.cons (.refl _) (.cons (.osl (.refl _)) (.refl _))))) (.refl _)) (bC _), ?_⟩
          simp
      · have n1 : (t.kind == 1) = false := by simpa using fun h => hk (.inl h)
        have n2 : (t.kind == 2) = false := by simpa using fun h => hk (.inr (.inl h))
        have n3 : (t.kind == 3) = false := by simpa using fun h => hk (.inr (.inr h))
        simp [n1, n2, n3, hk]
        refine ⟨_, _, ADet.sub (.cons (.agg (.cons (.refl _) (.cons (.refl _) (.cons (.osl (.refl _)) (.refl _))))) (.refl _)) (bC _), ?_⟩
        simp
end Go.Proofs.YtdnekbmnbblhgaaGreatDoor
