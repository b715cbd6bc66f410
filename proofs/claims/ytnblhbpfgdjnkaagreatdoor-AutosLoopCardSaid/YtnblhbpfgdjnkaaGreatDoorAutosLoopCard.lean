/- weftwaylaw09.AutosLoop: whatever the arguments are, the law returns true; no condition beyond the card's own. Its row, its tied card. -/
import Derived.Test.YtnblhbpfgdjnkaaGreatDoorCards
import Derived.Test.YtnblhbpfgdjnkaaGreatDoorTie
import Derived.Test.YtnblhbpfgdjnkaaGreatDoorMOpen
import Derived.Test.YtnblhbpfgdjnkaaGreatDoorOpenB
import Derived.Test.YtnblhbpfgdjnkaaGreatDoorAuQ
import Derived.WalkKit
import Derived.ProofKit
import Derived.OpenShut
import Derived.Deep.DeepHandedRow
import Derived.Deep.DeepWitnessRowRef
import Derived.Lib.LaidTab
namespace Go.Proofs.YtnblhbpfgdjnkaaGreatDoor
open Go.ChangeShapes Go.WideShapes Go.ChangeAt Go.RowKit
set_option linter.unusedVariables false

def autosLoopArgs : Array Value := #[.slice none 0 0, .int .i64 0, .bool false]
theorem autosLoop_laid (os : Os) : laidMet Tryz.prog Rows.autosLoopRow.laid ((laidWorld os).forCall (fun _ _ => 0) ⟨#[], autosLoopArgs, []⟩).memory :=
  laidMet_of_run' 10 (by kernel_rfl) (by kernel_rfl)
theorem autosLoop_reads (os : Os) {H : Type} (enc : TypeId × Value → H) : ∃ ds places, DataW.whole enc Tryz.prog ((laidWorld os).forCall (fun _ _ => 0) ⟨#[], autosLoopArgs, []⟩).memory Tryz.f8.params.toList Rows.autosLoopSpec.vars false autosLoopArgs.toList 8 = some (ds, [], places) :=
  ⟨[.nil, .lit (.int .i64 0), .lit (.bool false)], [], by kernel_rfl⟩
set_option maxRecDepth 100000 in
theorem AutosLoop.lifted (os : Os) (started : os.Started) (H : Type) (enc : TypeId × Value → H) (F : Stop.Interp) :
    ReturnsInHanded {} Tryz.checked os 8 .any ((OpenSpec.ofChange Rows.autosLoopSpec).preRow enc Tryz.prog Tryz.f8 Rows.autosLoopRow.domain false Rows.autosLoopRow.laid) (((OpenSpec.ofChange Rows.autosLoopSpec).at F).post enc Tryz.prog Tryz.f8 false true false false) := by
  obtain ⟨ds0, places, hx⟩ := autosLoop_reads os enc
  refine returnsInHanded_of_row (C := Tryz.checked) (s := OpenSpec.ofChange Rows.autosLoopSpec) own started (by kernel_rfl) Tryz.func8
    (witness_row_atRef (enc := enc) (C := Tryz.checked) false (laidWorld os) autosLoopArgs rfl (by kernel_rfl) (by kernel_rfl) (by kernel_rfl)
      (OpenSpec.preRow_of_cond 8 hx (by kernel_rfl) (fun k hk => by cases hk) (by kernel_rfl) (autosLoop_laid os))) ?_
  intro W base args ds gs before hval0 hW _ _ _ hL _ _
  have hval : ∀ (j : Nat) t v, Tryz.f8.params[j]? = some t → args[j]? = some v → Value.okWide Tryz.prog W .any base t v := hval0
  have hW' := hW
  obtain ⟨p, q, hA0, hV, rfl, hfz, hnd⟩ := hW
  have hA : DataW.TrodAll enc Tryz.prog W 0 (fun _ => true) true Tryz.f8.params.toList args.toList ds p := hA0
  rw [Tryz.params8] at hA hval
  obtain ⟨v0, vs0, d0, dd0, p0, q0, hargs0, rfl, rfl, h0, r0⟩ := trodAll_cons hA
  obtain ⟨v1, vs1, d1, dd1, p1, q1, hargs1, rfl, rfl, h1, r1⟩ := trodAll_cons r0
  obtain ⟨v2, vs2, d2, dd2, p2, q2, hargs2, rfl, rfl, h2, r2⟩ := trodAll_cons r1
  obtain ⟨rfl, rfl, rfl⟩ := trodAll_nil r2
  subst hargs1
  subst hargs2
  obtain rfl : args = #[v0, v1, v2] := by cases args; simp_all
  obtain ⟨rfl, rfl⟩ := trodVars_none hV
  have hf0 : ∀ b o, MemPlace.cell b o ∈ p0 → W.frozen? ⟨b, o, none⟩ = false := fun b o hm => hfz b o (by simp [hm])
  have hf1 : ∀ b o, MemPlace.cell b o ∈ p1 → W.frozen? ⟨b, o, none⟩ = false := fun b o hm => hfz b o (by simp [hm])
  have hf2 : ∀ b o, MemPlace.cell b o ∈ p2 → W.frozen? ⟨b, o, none⟩ = false := fun b o hm => hfz b o (by simp [hm])
  obtain ⟨x0, h0'⟩ := open_bytes (hval 0 57 v0 rfl rfl) h0 hf0
  obtain ⟨x1, rfl, rfl, rfl, _⟩ := open_int Tryz.underlying3 (hval 1 3 v1 rfl rfl) h1
  obtain ⟨x2, rfl, rfl, rfl⟩ := open_bool Tryz.underlying4 (hval 2 4 v2 rfl rfl) h2
  have a0 := (.p (rp_bys h0') : RA (allOf W) [[]] (.p (bys x0)) v0)
  have a1 := (.p (.v rfl) : RA (allOf W) [[]] (I x1) (.int .i64 x1))
  have a2 := (.p (.v rfl) : RA (allOf W) [[]] (B x2) (.bool x2))
  have hd := autosLoopC x0 (bys_in h0').1 (bys_in h0').2 x1 x2 [[]]
  refine (ADet.calls (Pr := allOf W) hd (xs := #[v0, .int .i64 x1, .bool x2]) ⟨rfl, fun j c x hc hx => ?_⟩ (fun b o v h => h) (tabs_met hL)).mono fun e' W' ⟨x, Pr', hr, _, ⟨φ', hx⟩, hb⟩ => ?_
  · match j, hc, hx with
    | 0, hc, hx => cases hc; cases hx; skip; exact a0
    | 1, hc, hx => cases hc; cases hx; skip; exact a1
    | 2, hc, hx => cases hc; cases hx; skip; exact a2
  · subst hr
    cases hx with | p hx => cases hx with | v _ =>
    exact ⟨_, rfl, law_post laidOut (fun t ht => by rw [Tryz.params8] at ht; simp at ht; rcases ht with rfl | rfl | rfl; exact readable_bytes; exact (⟨by kernel_rfl, of_decide_eq_true (by kernel_rfl)⟩ : Tryz.prog.readableRec 3 = true ∧ 3 < Tryz.prog.types.size); exact (⟨by kernel_rfl, of_decide_eq_true (by kernel_rfl)⟩ : Tryz.prog.readableRec 4 = true ∧ 4 < Tryz.prog.types.size)) hW' rfl rfl rfl Tryz.underlying4 hb⟩

theorem AutosLoop.said : Rows.AutosLoopSaid :=
  OpenClaim.holds_of_cond 8 Tryz.f8 rfl rfl rfl rfl rfl rfl rfl ⟨rfl, rfl, rfl, rfl, rfl⟩ rfl rfl rfl rfl rfl (by kernel_rfl) Tryz.func8 (by kernel_rfl)
    (of_decide_eq_true (by kernel_rfl)) (by unfold Func.isWrapper; first | (rw [if_pos (by decide +kernel)]; kernel_rfl) | (rw [if_neg (by decide +kernel)]; exact ⟨rfl, rfl⟩))
    (fun os started H enc _ F => by rw [OpenClaim.pre_eq_preRow]; exact AutosLoop.lifted os started H enc F)

theorem AutosLoop.plain (f : FuncId) (fn : Func) (hf : Tryz.pinned.checked.prog.funcNamed "weftway/weftwaylaw09.AutosLoop" = some f) (hfn : Tryz.pinned.checked.prog.funcs[f]? = some fn) :
    false = Tryz.pinned.checked.prog.looks [] ∧ ∀ (j : Nat) t, fn.params[j]? = some t → Tryz.pinned.checked.prog.wantsStandIn t = false := by
  obtain rfl : f = 8 := Option.some.inj ((show Tryz.prog.funcNamed "weftway/weftwaylaw09.AutosLoop" = some 8 by kernel_rfl).symm.trans hf) |>.symm
  obtain rfl : fn = Tryz.f8 := (Option.some.inj (Tryz.func8.symm.trans hfn)).symm
  refine ⟨by kernel_rfl, fun j t ht => ?_⟩
  rw [Tryz.params8] at ht
  have hm : t = 57 ∨ t = 3 ∨ t = 4 := by simpa using Array.mem_of_getElem? ht
  rcases hm with rfl | rfl | rfl
  · exact (show Tryz.prog.wantsStandIn 57 = false by kernel_rfl)
  · exact (show Tryz.prog.wantsStandIn 3 = false by kernel_rfl)
  · exact (show Tryz.prog.wantsStandIn 4 = false by kernel_rfl)

theorem AutosLoop.proved : Rows.AutosLoopCardSaid :=
  Claim7.holds_tied_plain_at .later [] _ _ _ _ AutosLoop.said (fun _ h => by cases h) (by kernel_rfl) (fun _ h => by cases h) autosLoop_row_tie rfl ⟨rfl, rfl⟩ (by kernel_rfl) rfl AutosLoop.plain (by kernel_rfl)
end Go.Proofs.YtnblhbpfgdjnkaaGreatDoor
