/- weftwaylaw08.TypesPieces: whatever the arguments are, the law returns true; no condition beyond the card's own. Its row, its tied card. -/
import Derived.Test.YtnblhbpfgdjnkaaGreatDoorCards
import Derived.Test.YtnblhbpfgdjnkaaGreatDoorTie
import Derived.Test.YtnblhbpfgdjnkaaGreatDoorMOpen
import Derived.Test.YtnblhbpfgdjnkaaGreatDoorOpenS
import Derived.Test.YtnblhbpfgdjnkaaGreatDoorTyN
import Derived.WalkKit
import Derived.ProofKit
import Derived.OpenShut
import Derived.Deep.DeepHandedRow
import Derived.Deep.DeepWitnessRowRef
import Derived.Lib.LaidTab
namespace Go.Proofs.YtnblhbpfgdjnkaaGreatDoor
open Go.ChangeShapes Go.WideShapes Go.ChangeAt Go.RowKit
set_option linter.unusedVariables false

def typesPiecesArgs : Array Value := #[.agg #[.slice none 0 0], .agg #[.int .u8 0, .string ⟨#[]⟩, .slice none 0 0], .slice none 0 0, .int .i64 0]
theorem typesPieces_laid (os : Os) : laidMet Tryz.prog Rows.typesPiecesRow.laid ((laidWorld os).forCall (fun _ _ => 0) ⟨#[], typesPiecesArgs, []⟩).memory :=
  laidMet_of_run' 10 (by kernel_rfl) (by kernel_rfl)
theorem typesPieces_reads (os : Os) {H : Type} (enc : TypeId × Value → H) : ∃ ds places, DataW.whole enc Tryz.prog ((laidWorld os).forCall (fun _ _ => 0) ⟨#[], typesPiecesArgs, []⟩).memory Tryz.f3.params.toList Rows.typesPiecesSpec.vars false typesPiecesArgs.toList 8 = some (ds, [], places) :=
  ⟨[.agg [.nil], .agg [.lit (.int .u8 0), .lit (.string []), .nil], .nil, .lit (.int .i64 0)], [], by kernel_rfl⟩
set_option maxRecDepth 100000 in
theorem TypesPieces.lifted (os : Os) (started : os.Started) (H : Type) (enc : TypeId × Value → H) (F : Stop.Interp) :
    ReturnsInHanded {} Tryz.checked os 3 .any ((OpenSpec.ofChange Rows.typesPiecesSpec).preRow enc Tryz.prog Tryz.f3 Rows.typesPiecesRow.domain false Rows.typesPiecesRow.laid) (((OpenSpec.ofChange Rows.typesPiecesSpec).at F).post enc Tryz.prog Tryz.f3 false true false false) := by
  obtain ⟨ds0, places, hx⟩ := typesPieces_reads os enc
  refine returnsInHanded_of_row (C := Tryz.checked) (s := OpenSpec.ofChange Rows.typesPiecesSpec) own started (by kernel_rfl) Tryz.func3
    (witness_row_atRef (enc := enc) (C := Tryz.checked) false (laidWorld os) typesPiecesArgs rfl (by kernel_rfl) (by kernel_rfl) (by kernel_rfl)
      (OpenSpec.preRow_of_cond 8 hx (by kernel_rfl) (fun k hk => by cases hk) (by kernel_rfl) (typesPieces_laid os))) ?_
  intro W base args ds gs before hval0 hW _ _ _ hL _ _
  have hval : ∀ (j : Nat) t v, Tryz.f3.params[j]? = some t → args[j]? = some v → Value.okWide Tryz.prog W .any base t v := hval0
  have hW' := hW
  obtain ⟨p, q, hA0, hV, rfl, hfz, hnd⟩ := hW
  have hA : DataW.TrodAll enc Tryz.prog W 0 (fun _ => true) true Tryz.f3.params.toList args.toList ds p := hA0
  rw [Tryz.params3] at hA hval
  obtain ⟨v0, vs0, d0, dd0, p0, q0, hargs0, rfl, rfl, h0, r0⟩ := trodAll_cons hA
  obtain ⟨v1, vs1, d1, dd1, p1, q1, hargs1, rfl, rfl, h1, r1⟩ := trodAll_cons r0
  obtain ⟨v2, vs2, d2, dd2, p2, q2, hargs2, rfl, rfl, h2, r2⟩ := trodAll_cons r1
  obtain ⟨v3, vs3, d3, dd3, p3, q3, hargs3, rfl, rfl, h3, r3⟩ := trodAll_cons r2
  obtain ⟨rfl, rfl, rfl⟩ := trodAll_nil r3
  subst hargs1
  subst hargs2
  subst hargs3
  obtain rfl : args = #[v0, v1, v2, v3] := by cases args; simp_all
  obtain ⟨rfl, rfl⟩ := trodVars_none hV
  have hf0 : ∀ b o, MemPlace.cell b o ∈ p0 → W.frozen? ⟨b, o, none⟩ = false := fun b o hm => hfz b o (by simp [hm])
  have hf1 : ∀ b o, MemPlace.cell b o ∈ p1 → W.frozen? ⟨b, o, none⟩ = false := fun b o hm => hfz b o (by simp [hm])
  have hf2 : ∀ b o, MemPlace.cell b o ∈ p2 → W.frozen? ⟨b, o, none⟩ = false := fun b o hm => hfz b o (by simp [hm])
  have hf3 : ∀ b o, MemPlace.cell b o ∈ p3 → W.frozen? ⟨b, o, none⟩ = false := fun b o hm => hfz b o (by simp [hm])
  obtain ⟨x0, f0, rfl, h0'⟩ := open_param Tryz.underlying24 cells_Program opens_Program (hval 0 24 v0 rfl rfl) h0 hf0
  obtain ⟨x1, f1, rfl, h1'⟩ := open_param Tryz.underlying27 cells_Type opens_Type (hval 1 27 v1 rfl rfl) h1 hf1
  obtain ⟨x2, h2'⟩ := open_strs (hval 2 28 v2 rfl rfl) h2 hf2
  obtain ⟨x3, rfl, rfl, rfl, _⟩ := open_int Tryz.underlying3 (hval 3 3 v3 rfl rfl) h3
  have a0 := (ra_agg (φ := [[]]) (n := 1) rfl (rdp_cons (rp_prog h0') (rdp_nil _ _)))
  have a1 := (ra_agg (φ := [[]]) (n := 3) (by rw [tyEnc]; rfl) (rd_ty x1 f1 h1'))
  have a2 := (.p (rp_strs h2') : RA (allOf W) [[]] (.p (strs x2)) v2)
  have a3 := (.p (.v rfl) : RA (allOf W) [[]] (I x3) (.int .i64 x3))
  have hd := typesPiecesC x0 x1 x2 x3 (itNn_of h0') [[]]
  refine (ADet.calls (Pr := allOf W) hd (xs := #[.agg ((List.range 1).map f0).toArray, .agg ((List.range 3).map f1).toArray, v2, .int .i64 x3]) ⟨rfl, fun j c x hc hx => ?_⟩ (fun b o v h => h) (tabs_met hL)).mono fun e' W' ⟨x, Pr', hr, _, ⟨φ', hx⟩, hb⟩ => ?_
  · match j, hc, hx with
    | 0, hc, hx => cases hc; cases hx; skip; exact a0
    | 1, hc, hx => cases hc; cases hx; rw [tyEnc] at a1; exact a1
    | 2, hc, hx => cases hc; cases hx; skip; exact a2
    | 3, hc, hx => cases hc; cases hx; skip; exact a3
  · subst hr
    cases hx with | p hx => cases hx with | v _ =>
    exact ⟨_, rfl, law_post laidOut (fun t ht => by rw [Tryz.params3] at ht; simp at ht; rcases ht with rfl | rfl | rfl | rfl; exact readable_Program; exact readable_Type; exact readable_strs; exact (⟨by kernel_rfl, of_decide_eq_true (by kernel_rfl)⟩ : Tryz.prog.readableRec 3 = true ∧ 3 < Tryz.prog.types.size)) hW' rfl rfl rfl Tryz.underlying4 hb⟩

theorem TypesPieces.said : Rows.TypesPiecesSaid :=
  OpenClaim.holds_of_cond 3 Tryz.f3 rfl rfl rfl rfl rfl rfl rfl ⟨rfl, rfl, rfl, rfl, rfl⟩ rfl rfl rfl rfl rfl (by kernel_rfl) Tryz.func3 (by kernel_rfl)
    (of_decide_eq_true (by kernel_rfl)) (by unfold Func.isWrapper; first | (rw [if_pos (by decide +kernel)]; kernel_rfl) | (rw [if_neg (by decide +kernel)]; exact ⟨rfl, rfl⟩))
    (fun os started H enc _ F => by rw [OpenClaim.pre_eq_preRow]; exact TypesPieces.lifted os started H enc F)

theorem TypesPieces.plain (f : FuncId) (fn : Func) (hf : Tryz.pinned.checked.prog.funcNamed "weftway/weftwaylaw08.TypesPieces" = some f) (hfn : Tryz.pinned.checked.prog.funcs[f]? = some fn) :
    false = Tryz.pinned.checked.prog.looks [] ∧ ∀ (j : Nat) t, fn.params[j]? = some t → Tryz.pinned.checked.prog.wantsStandIn t = false := by
  obtain rfl : f = 3 := Option.some.inj ((show Tryz.prog.funcNamed "weftway/weftwaylaw08.TypesPieces" = some 3 by kernel_rfl).symm.trans hf) |>.symm
  obtain rfl : fn = Tryz.f3 := (Option.some.inj (Tryz.func3.symm.trans hfn)).symm
  refine ⟨by kernel_rfl, fun j t ht => ?_⟩
  rw [Tryz.params3] at ht
  have hm : t = 24 ∨ t = 27 ∨ t = 28 ∨ t = 3 := by simpa using Array.mem_of_getElem? ht
  rcases hm with rfl | rfl | rfl | rfl
  · exact (show Tryz.prog.wantsStandIn 24 = false by kernel_rfl)
  · exact (show Tryz.prog.wantsStandIn 27 = false by kernel_rfl)
  · exact (show Tryz.prog.wantsStandIn 28 = false by kernel_rfl)
  · exact (show Tryz.prog.wantsStandIn 3 = false by kernel_rfl)

theorem TypesPieces.proved : Rows.TypesPiecesCardSaid :=
  Claim7.holds_tied_plain_at .later [] _ _ _ _ TypesPieces.said (fun _ h => by cases h) (by kernel_rfl) (fun _ h => by cases h) typesPieces_row_tie rfl ⟨rfl, rfl⟩ (by kernel_rfl) rfl TypesPieces.plain (by kernel_rfl)
end Go.Proofs.YtnblhbpfgdjnkaaGreatDoor
