/- weftwaylaw09.AutosRules in the logic over abstract values. Its row is in a text of its own. -/
import Derived.Test.YtnblhbpfgdjnkaaGreatDoorAuG
import Derived.Test.YtnblhbpfgdjnkaaGreatDoorAuLb
import Derived.Test.YtnblhbpfgdjnkaaGreatDoorTR3
import Derived.Test.YtnblhbpfgdjnkaaGreatDoorTR3
import Derived.Test.YtnblhbpfgdjnkaaGreatDoorTRv
namespace Go.Proofs.YtnblhbpfgdjnkaaGreatDoor
open Go.RowKit
attribute [local simp] List.replicate List.range List.range.loop resA resOne retA AV.cuts AV.cut AObj.cut trim wkR wkT wkL wkN wkNR wkNL wkM wkMR wkML
set_option linter.unusedVariables false
set_option linter.unusedSimpArgs false
set_option maxRecDepth 100000 in
set_option maxHeartbeats 32000000 in
theorem autosRulesC (p : List It) (t : Ty) (hnn : ∀ x ∈ p, ItNn x) (S : ASt) : ADet Tryz.prog 7 [.agg [.p (prog p)], tyV t] S (B true) S := by
  have gC := fun S => great9C p t S
  refine ADet.intro mixed Tryz.call7 Tryz.func7 rfl ?_
  simp [Tryz.ntmps7]
  refine ⟨_, _, awake09C _, ?_⟩
  simp
  refine ⟨_, _, gC _, ?_⟩
  cases hg : great9 p t with
  | true => simp
  | false =>
  have hg' := hg
  unfold great9 at hg'
  simp only [Bool.or_eq_false_iff, decide_eq_false_iff_not] at hg'
  have hp := pr_sm hg'.1
  have ht := ty_sm t 20000 (by omega) (by omega) (by omega)
  have wC := fun S => r3WholeC p hp hnn S
  have tC := fun S => rTypeC t ht 40 S (by omega) (by omega)
  simp
  refine ⟨_, _, wC _, ?_⟩
  cases hw : prWhole p with
  | false => simp
  | true =>
  simp
  refine ⟨_, _, tC _, ?_⟩
  cases hwt : t.whole 40 with
  | false => simp
  | true =>
  simp
  obtain ⟨hpl, hDQ⟩ := whole_DQ hw
  refine awp_loop (fun i : Nat => i ≤ p.length) (fun i => ([.any, .any, .ptr 0 0 0, .ptr 0 1 0, .any, I i] ++ List.replicate 71 .any)) (fun i => [.cells [.p (prog p)] 24, .cells [U t.kind, Sg t.name, .p (.sl 3 (t.args.map Ty.enc))] 27] :: S) (fun i => p.length - i) 0 (Nat.zero_le _) ?_ ?_ ?_
  · simp
  · simp
  intro i hi
  by_cases hlt : i < p.length
  · have hlt' : (i : Int) < (p.length : Int) := by omega
    have hwr := wrap_succ hlt (by unfold maxLen; omega)
    have hxm : p[i] ∈ p := List.getElem_mem hlt
    generalize he : p[i] = x at *
    obtain ⟨hfl, hfq⟩ := hDQ x hxm
    have hxs := hp.2 x hxm
    simp [hlt, hlt', prog]
    refine awp_loop (fun k : Nat => k ≤ x.fields.length) (fun k => ([.any, .any, .ptr 0 0 0, .ptr 0 1 0, .any, I i, I k] ++ List.replicate 70 .any)) (fun k => [.cells [.p (prog p)] 24, .cells [U t.kind, Sg t.name, .p (.sl 3 (t.args.map Ty.enc))] 27] :: S) (fun k => x.fields.length - k) 0 (Nat.zero_le _) ?_ ?_ ?_
    · simp
    · simp [prog]
    intro k hk
    by_cases hkt : k < x.fields.length
    · have hkt' : (k : Int) < (x.fields.length : Int) := by omega
      have hkr := wrap_succ hkt (by unfold maxLen; omega)
      have hgm : x.fields[k] ∈ x.fields := List.getElem_mem hkt
      generalize hge : x.fields[k] = g at *
      have hgs : TySm g.type := (hxs.2.1.2 g hgm).2
      by_cases h0 : g.type.kind = 0
      · simp [hlt, hlt', hkt, hkt', prog, he, It.enc, hge, Fi.enc, h0]
        exact ⟨k + 1, hkt, by omega, hkr⟩
      · have h0' : (g.type.kind != 0) = true := by simpa using h0
        have hgw : g.type.whole 40 = true := by
          rcases hfq g hgm with h | h
          · exact tyWhole_mono _ _ _ (by omega) h
          · exact absurd h.1 h0
        have rC := fun S => ruledC p hp hw g.type hgs hgw S
        simp [hlt, hlt', hkt, hkt', prog, he, It.enc, hge, Fi.enc, h0']
        refine ⟨_, _, rC _, ?_⟩
        simp
        exact ⟨k + 1, hkt, by omega, hkr⟩
    · have hkt' : ¬ (k : Int) < (x.fields.length : Int) := by omega
      simp [hlt, hlt', hkt', prog, he, It.enc]
      exact ⟨i + 1, hlt, by omega, hwr⟩
  · have hlt' : ¬ (i : Int) < (p.length : Int) := by omega
    simp [hlt', prog]
    refine awp_loop (fun y : Nat × Ty => y.1 ≤ 40 ∧ TySm y.2 ∧ y.2.whole 40 = true) (fun y => ([.any, .any, .ptr 0 0 0, .ptr 0 1 0, .any, .any, .any, .any, I y.1] ++ List.replicate 68 .any)) (fun y => [.cells [.p (prog p)] 24, .cells [U y.2.kind, Sg y.2.name, .p (.sl 3 (y.2.args.map Ty.enc))] 27] :: S) (fun y => 40 - y.1) (0, t) ⟨by omega, ht, hwt⟩ ?_ ?_ ?_
    · simp
    · simp [prog]
    rintro ⟨n, u⟩ ⟨hn, hus, huw⟩
    simp only at hn hus huw
    by_cases hnt : n < 40
    · have hnt' : (n : Int) < 40 := by omega
      have hnr := wrap_succ hnt (by unfold maxLen; omega)
      have rC := fun S => ruledC p hp hw u hus huw S
      simp [hnt, hnt']
      refine ⟨_, _, rC _, ?_⟩
      rcases ty_cases huw with ⟨_, hl⟩ | ⟨_, hl⟩ | ⟨_, _, _, x, hx, hxw⟩
      · simp [hl]
      · simp [hl]
      · have hxs : TySm x := by
          obtain ⟨_, _, _, h⟩ := hus
          exact h x (by rw [hx]; exact List.mem_singleton.2 rfl)
        have hx40 : x.whole 40 = true := tyWhole_mono _ _ _ (by omega) hxw
        simp [hx, tyEnc]
        exact ⟨n + 1, x, ⟨by omega, hxs, hx40⟩, by omega, by simp [hnr], by simp [tyEnc]⟩
    · have hnt' : ¬ (n : Int) < 40 := by omega
      simp [hnt']
end Go.Proofs.YtnblhbpfgdjnkaaGreatDoor
