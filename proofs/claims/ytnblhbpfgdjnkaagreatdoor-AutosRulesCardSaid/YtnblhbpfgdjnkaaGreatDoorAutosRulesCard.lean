/- weftwaylaw09.AutosRules: whatever the arguments are, the law returns true; no condition beyond the card's own. Its row, its tied card. -/
import Derived.Test.YtnblhbpfgdjnkaaGreatDoorCards
import Derived.Test.YtnblhbpfgdjnkaaGreatDoorTie
import Derived.Test.YtnblhbpfgdjnkaaGreatDoorTOpen
import Derived.Test.YtnblhbpfgdjnkaaGreatDoorAuM
import Derived.WalkKit
import Derived.ProofKit
import Derived.OpenShut
import Derived.Deep.DeepHandedRow
import Derived.Deep.DeepWitnessRowRef
import Derived.Lib.LaidTab
namespace Go.Proofs.YtnblhbpfgdjnkaaGreatDoor
open Go.ChangeShapes Go.WideShapes Go.ChangeAt Go.RowKit
set_option linter.unusedVariables false

def autosRulesArgs : Array Value := #[.agg #[.slice none 0 0], .agg #[.int .u8 0, .string ⟨#[]⟩, .slice none 0 0]]
theorem autosRules_laid (os : Os) : laidMet Tryz.prog Rows.autosRulesRow.laid ((laidWorld os).forCall (fun _ _ => 0) ⟨#[], autosRulesArgs, []⟩).memory :=
  laidMet_of_run' 10 (by kernel_rfl) (by kernel_rfl)
theorem autosRules_reads (os : Os) {H : Type} (enc : TypeId × Value → H) : ∃ ds places, DataW.whole enc Tryz.prog ((laidWorld os).forCall (fun _ _ => 0) ⟨#[], autosRulesArgs, []⟩).memory Tryz.f7.params.toList Rows.autosRulesSpec.vars false autosRulesArgs.toList 8 = some (ds, [], places) :=
  ⟨[.agg [.nil], .agg [.lit (.int .u8 0), .lit (.string []), .nil]], [], by kernel_rfl⟩
set_option maxRecDepth 100000 in
theorem AutosRules.lifted (os : Os) (started : os.Started) (H : Type) (enc : TypeId × Value → H) (F : Stop.Interp) :
    ReturnsInHanded {} Tryz.checked os 7 .any ((OpenSpec.ofChange Rows.autosRulesSpec).preRow enc Tryz.prog Tryz.f7 Rows.autosRulesRow.domain false Rows.autosRulesRow.laid) (((OpenSpec.ofChange Rows.autosRulesSpec).at F).post enc Tryz.prog Tryz.f7 false true false false) := by
  obtain ⟨ds0, places, hx⟩ := autosRules_reads os enc
  refine returnsInHanded_of_row (C := Tryz.checked) (s := OpenSpec.ofChange Rows.autosRulesSpec) own started (by kernel_rfl) Tryz.func7
    (witness_row_atRef (enc := enc) (C := Tryz.checked) false (laidWorld os) autosRulesArgs rfl (by kernel_rfl) (by kernel_rfl) (by kernel_rfl)
      (OpenSpec.preRow_of_cond 8 hx (by kernel_rfl) (fun k hk => by cases hk) (by kernel_rfl) (autosRules_laid os))) ?_
  intro W base args ds gs before hval0 hW _ _ _ hL _ _
  have hval : ∀ (j : Nat) t v, Tryz.f7.params[j]? = some t → args[j]? = some v → Value.okWide Tryz.prog W .any base t v := hval0
  have hW' := hW
  obtain ⟨p, q, hA0, hV, rfl, hfz, hnd⟩ := hW
  have hA : DataW.TrodAll enc Tryz.prog W 0 (fun _ => true) true Tryz.f7.params.toList args.toList ds p := hA0
  rw [Tryz.params7] at hA hval
  obtain ⟨v0, vs0, d0, dd0, p0, q0, hargs0, rfl, rfl, h0, r0⟩ := trodAll_cons hA
  obtain ⟨v1, vs1, d1, dd1, p1, q1, hargs1, rfl, rfl, h1, r1⟩ := trodAll_cons r0
  obtain ⟨rfl, rfl, rfl⟩ := trodAll_nil r1
  subst hargs1
  obtain rfl : args = #[v0, v1] := by cases args; simp_all
  obtain ⟨rfl, rfl⟩ := trodVars_none hV
  have hf0 : ∀ b o, MemPlace.cell b o ∈ p0 → W.frozen? ⟨b, o, none⟩ = false := fun b o hm => hfz b o (by simp [hm])
  have hf1 : ∀ b o, MemPlace.cell b o ∈ p1 → W.frozen? ⟨b, o, none⟩ = false := fun b o hm => hfz b o (by simp [hm])
  obtain ⟨x0, f0, rfl, h0'⟩ := open_param Tryz.underlying24 cells_Program opens_Program (hval 0 24 v0 rfl rfl) h0 hf0
  obtain ⟨x1, f1, rfl, h1'⟩ := open_param Tryz.underlying27 cells_Type opens_Type (hval 1 27 v1 rfl rfl) h1 hf1
  have a0 := (ra_agg (φ := [[]]) (n := 1) rfl (rdp_cons (rp_prog h0') (rdp_nil _ _)))
  have a1 := (ra_agg (φ := [[]]) (n := 3) (by rw [tyEnc]; rfl) (rd_ty x1 f1 h1'))
  have hd := autosRulesC x0 x1 (itNn_of h0') [[]]
  refine (ADet.calls (Pr := allOf W) hd (xs := #[.agg ((List.range 1).map f0).toArray, .agg ((List.range 3).map f1).toArray]) ⟨rfl, fun j c x hc hx => ?_⟩ (fun b o v h => h) (tabs_met hL)).mono fun e' W' ⟨x, Pr', hr, _, ⟨φ', hx⟩, hb⟩ => ?_
  · match j, hc, hx with
    | 0, hc, hx => cases hc; cases hx; skip; exact a0
    | 1, hc, hx => cases hc; cases hx; rw [tyEnc] at a1; exact a1
  · subst hr
    cases hx with | p hx => cases hx with | v _ =>
    exact ⟨_, rfl, law_post laidOut (fun t ht => by rw [Tryz.params7] at ht; simp at ht; rcases ht with rfl | rfl; exact readable_Program; exact readable_Type) hW' rfl rfl rfl Tryz.underlying4 hb⟩

theorem AutosRules.said : Rows.AutosRulesSaid :=
  OpenClaim.holds_of_cond 7 Tryz.f7 rfl rfl rfl rfl rfl rfl rfl ⟨rfl, rfl, rfl, rfl, rfl⟩ rfl rfl rfl rfl rfl (by kernel_rfl) Tryz.func7 (by kernel_rfl)
    (of_decide_eq_true (by kernel_rfl)) (by unfold Func.isWrapper; first | (rw [if_pos (by decide +kernel)]; kernel_rfl) | (rw [if_neg (by decide +kernel)]; exact ⟨rfl, rfl⟩))
    (fun os started H enc _ F => by rw [OpenClaim.pre_eq_preRow]; exact AutosRules.lifted os started H enc F)

theorem AutosRules.plain (f : FuncId) (fn : Func) (hf : Tryz.pinned.checked.prog.funcNamed "weftway/weftwaylaw09.AutosRules" = some f) (hfn : Tryz.pinned.checked.prog.funcs[f]? = some fn) :
    false = Tryz.pinned.checked.prog.looks [] ∧ ∀ (j : Nat) t, fn.params[j]? = some t → Tryz.pinned.checked.prog.wantsStandIn t = false := by
  obtain rfl : f = 7 := Option.some.inj ((show Tryz.prog.funcNamed "weftway/weftwaylaw09.AutosRules" = some 7 by kernel_rfl).symm.trans hf) |>.symm
  obtain rfl : fn = Tryz.f7 := (Option.some.inj (Tryz.func7.symm.trans hfn)).symm
  refine ⟨by kernel_rfl, fun j t ht => ?_⟩
  rw [Tryz.params7] at ht
  have hm : t = 24 ∨ t = 27 := by simpa using Array.mem_of_getElem? ht
  rcases hm with rfl | rfl
  · exact (show Tryz.prog.wantsStandIn 24 = false by kernel_rfl)
  · exact (show Tryz.prog.wantsStandIn 27 = false by kernel_rfl)

theorem AutosRules.proved : Rows.AutosRulesCardSaid :=
  Claim7.holds_tied_plain_at .later [] _ _ _ _ AutosRules.said (fun _ h => by cases h) (by kernel_rfl) (fun _ h => by cases h) autosRules_row_tie rfl ⟨rfl, rfl⟩ (by kernel_rfl) rfl AutosRules.plain (by kernel_rfl)
end Go.Proofs.YtnblhbpfgdjnkaaGreatDoor
