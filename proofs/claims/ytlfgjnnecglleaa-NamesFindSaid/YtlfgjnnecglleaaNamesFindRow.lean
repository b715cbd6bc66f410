/- weftwaylaw06.NamesFind: whatever the arguments are, the law returns true. Its row. -/
import Derived.Test.YtlfgjnnecglleaaMOpen
import Derived.Test.YtlfgjnnecglleaaNmC
import Derived.ProofKit
namespace Go.Proofs.Ytlfgjnnecglleaa
open Go.ChangeShapes Go.WideShapes Go.ChangeAt Go.RowKit
set_option linter.unusedVariables false

theorem tabs_none {W : World} : TabsP (allOf W) [[]] W := fun g cs hm => by
  unfold tabList at hm
  cases hm
set_option maxRecDepth 100000 in
theorem NamesFind.lifted (os : Os) (started : os.Started) (H : Type) (enc : TypeId × Value → H) :
    ReturnsInHanded {} Try.checked os 3 .any (Rows.namesFindSpec.pre6 enc Try.prog Try.f3 Rows.namesFindRow.domain false) (Rows.namesFindSpec.post enc Try.prog Try.f3 false true false false) := by
  refine returnsInHanded_of_change (C := Try.checked) own started (by kernel_rfl) Try.func3
    (ChangeSpec.witness6 (enc := enc) (C := Try.checked) false ⟨#[], #[.agg #[.slice none 0 0], .int .u8 0, .string ⟨#[]⟩], []⟩ 8 (by kernel_rfl) (by kernel_rfl) (by kernel_rfl) (by kernel_rfl)) ?_
  intro W base args ds gs before hval0 hW hcnd _
  have hval : ∀ (j : Nat) t v, Try.f3.params[j]? = some t → args[j]? = some v → Value.okWide Try.prog W .any base t v := hval0
  have hW' := hW
  obtain ⟨p, q, hA0, hV, rfl, hfz, hnd⟩ := hW
  have hA : DataW.TrodAll enc Try.prog W 0 (fun _ => true) true Try.f3.params.toList args.toList ds p := hA0
  rw [Try.params3] at hA hval
  obtain ⟨v0, vs0, d0, dd0, p0, q0, hargs0, rfl, rfl, h0, r0⟩ := trodAll_cons hA
  obtain ⟨v1, vs1, d1, dd1, p1, q1, hargs1, rfl, rfl, h1, r1⟩ := trodAll_cons r0
  obtain ⟨v2, vs2, d2, dd2, p2, q2, hargs2, rfl, rfl, h2, r2⟩ := trodAll_cons r1
  obtain ⟨rfl, rfl, rfl⟩ := trodAll_nil r2
  subst hargs1
  subst hargs2
  obtain rfl : args = #[v0, v1, v2] := by cases args; simp_all
  obtain ⟨rfl, rfl⟩ := trodVars_none hV
  have hf0 : ∀ b o, MemPlace.cell b o ∈ p0 → W.frozen? ⟨b, o, none⟩ = false := fun b o hm => hfz b o (by simp [hm])
  have hf1 : ∀ b o, MemPlace.cell b o ∈ p1 → W.frozen? ⟨b, o, none⟩ = false := fun b o hm => hfz b o (by simp [hm])
  have hf2 : ∀ b o, MemPlace.cell b o ∈ p2 → W.frozen? ⟨b, o, none⟩ = false := fun b o hm => hfz b o (by simp [hm])
  obtain ⟨x0, f0, rfl, h0'⟩ := open_param Try.underlying24 cells_Program opens_Program (hval 0 24 v0 rfl rfl) h0 hf0
  obtain ⟨x1, rfl, rfl, rfl, _⟩ := open_int Try.underlying5 (hval 1 5 v1 rfl rfl) h1
  obtain ⟨x2, rfl, rfl, rfl, _⟩ := ChangeMaps.open_string Try.underlying9 (hval 2 9 v2 rfl rfl) h2
  have a0 := (ra_agg (φ := [[]]) (n := 1) rfl (rdp_cons (rp_prog h0') (rdp_nil _ _)))
  have a1 := (.p (.v rfl) : RA (allOf W) [[]] (U x1) (.int .u8 x1))
  have a2 := (.p (.v rfl) : RA (allOf W) [[]] (Sg x2) (.string x2))
  have hd := (fun (S : ASt) => namesFindC x0 x1 x2 S) [[]]
  refine (ADet.calls (Pr := allOf W) hd (xs := #[.agg ((List.range 1).map f0).toArray, .int .u8 x1, .string x2]) ⟨rfl, fun j c x hc hx => ?_⟩ (fun b o v h => h) tabs_none).mono fun e' W' ⟨x, Pr', hr, _, ⟨φ', hx⟩, hb⟩ => ?_
  · match j, hc, hx with
    | 0, hc, hx => cases hc; cases hx; skip; exact a0
    | 1, hc, hx => cases hc; cases hx; skip; exact a1
    | 2, hc, hx => cases hc; cases hx; skip; exact a2
  · subst hr
    cases hx with | p hx => cases hx with | v _ =>
    exact ⟨_, rfl, law_post laidOut (fun t ht => by rw [Try.params3] at ht; simp at ht; rcases ht with rfl | rfl | rfl; exact readable_Program; exact (⟨by kernel_rfl, of_decide_eq_true (by kernel_rfl)⟩ : Try.prog.readableRec 5 = true ∧ 5 < Try.prog.types.size); exact (⟨by kernel_rfl, of_decide_eq_true (by kernel_rfl)⟩ : Try.prog.readableRec 9 = true ∧ 9 < Try.prog.types.size)) hW' rfl rfl rfl Try.underlying4 hb⟩

theorem NamesFind.proved : Rows.NamesFindSaid :=
  OpenClaim.holds_of_wide 3 Try.f3 rfl rfl rfl rfl rfl rfl rfl ⟨rfl, rfl, rfl, rfl, rfl⟩ rfl rfl rfl rfl rfl (by kernel_rfl) Try.func3 (by kernel_rfl)
    (of_decide_eq_true (by kernel_rfl)) (by unfold Func.isWrapper; first | (rw [if_pos (by decide +kernel)]; kernel_rfl) | (rw [if_neg (by decide +kernel)]; exact ⟨rfl, rfl⟩))
    (fun os started H enc _ => NamesFind.lifted os started H enc)
end Go.Proofs.Ytlfgjnnecglleaa
