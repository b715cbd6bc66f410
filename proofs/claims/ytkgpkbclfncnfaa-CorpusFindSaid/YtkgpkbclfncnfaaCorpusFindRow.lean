/- weftwaylaw30.CorpusFind returns true for every name, number and truth. No condition. -/
import Derived.Test.YtkgpkbclfncnfaaCorpusFindOf
import Derived.Test.YtkgpkbclfncnfaaOpen
import Derived.ProofKit
namespace Go.Proofs.Ytkgpkbclfncnfaa
open Go.ChangeShapes Go.WideShapes Go.ChangeAt Go.RowKit
set_option linter.unusedVariables false

theorem readable_string3 : Try.prog.readableRec 9 = true ∧ 9 < Try.prog.types.size := ⟨by kernel_rfl, of_decide_eq_true (by kernel_rfl)⟩
theorem readable_int3 : Try.prog.readableRec 3 = true ∧ 3 < Try.prog.types.size := ⟨by kernel_rfl, of_decide_eq_true (by kernel_rfl)⟩
theorem readable_bool3 : Try.prog.readableRec 4 = true ∧ 4 < Try.prog.types.size := ⟨by kernel_rfl, of_decide_eq_true (by kernel_rfl)⟩

theorem corpusFind_any (name : ByteArray) (n : Int) (b : Bool) (w : World) :
    Calls Try.prog 5 #[.string name, .int .i64 n, .bool b] w fun e w' => e = .returned (.bool true) ∧ Below w.heap.size w w' := by
  by_cases h : 100 < (name.size : Int)
  · exact corpusFind_long name n b w h
  · cases b with
    | false => exact corpusFind_plain name n w h
    | true =>
      by_cases h0 : 0 ≤ n
      · by_cases h1 : n < 18
        · obtain ⟨m, rfl⟩ := Int.eq_ofNat_of_zero_le h0
          exact corpusFind_of name m w h (by omega)
        · exact corpusFind_big name n w h h0 h1
      · exact corpusFind_neg name n w h h0

set_option maxRecDepth 100000 in
theorem CorpusFind.lifted (os : Os) (started : os.Started) (H : Type) (enc : TypeId × Value → H) :
    ReturnsInHanded {} Try.checked os 5 .any (Rows.corpusFindSpec.pre6 enc Try.prog Try.f5 Rows.corpusFindRow.domain false) (Rows.corpusFindSpec.post enc Try.prog Try.f5 false true false false) := by
  refine returnsInHanded_of_change (C := Try.checked) own started (by kernel_rfl) Try.func5
    (ChangeSpec.witness6 (enc := enc) (C := Try.checked) false ⟨#[], #[.string ⟨#[]⟩, .int .i64 0, .bool false], []⟩ 8 (by kernel_rfl) (by kernel_rfl) (by kernel_rfl) (by kernel_rfl)) ?_
  intro W base args ds gs before hval0 hW hcnd _
  have hval : ∀ (j : Nat) t v, Try.f5.params[j]? = some t → args[j]? = some v → Value.okWide Try.prog W .any base t v := hval0
  have hW' := hW
  obtain ⟨p, q, hA0, hV, rfl, hfz, hnd⟩ := hW
  have hA : DataW.TrodAll enc Try.prog W 0 (fun _ => true) true Try.f5.params.toList args.toList ds p := hA0
  rw [Try.params5] at hA hval
  obtain ⟨v0, v1, v2, d0, d1, d2, p0, p1, p2, rfl, rfl, rfl, h0, h1, h2⟩ := trodAll_three hA
  obtain ⟨rfl, rfl⟩ := trodVars_none hV
  obtain ⟨s, rfl, rfl, rfl, _⟩ := ChangeMaps.open_string Try.underlying9 (hval 0 9 v0 rfl rfl) h0
  obtain ⟨n, rfl, rfl, rfl, hwf⟩ := open_int Try.underlying3 (hval 1 3 v1 rfl rfl) h1
  obtain ⟨b, rfl, rfl, rfl⟩ := open_bool Try.underlying4 (hval 2 4 v2 rfl rfl) h2
  refine (corpusFind_any s n b W).mono fun e W' ⟨he, hb⟩ => ?_
  subst he
  exact ⟨_, rfl, law_post laidOut (fun t ht => by rw [Try.params5] at ht; simp at ht; rcases ht with rfl | rfl | rfl <;> first | exact readable_string3 | exact readable_int3 | exact readable_bool3) hW' rfl rfl rfl Try.underlying4 hb⟩

theorem CorpusFind.proved : Rows.CorpusFindSaid :=
  OpenClaim.holds_of_wide 5 Try.f5 rfl rfl rfl rfl rfl rfl rfl ⟨rfl, rfl, rfl, rfl, rfl⟩ rfl rfl rfl rfl rfl (by kernel_rfl) Try.func5 (by kernel_rfl)
    (of_decide_eq_true (by kernel_rfl)) (by unfold Func.isWrapper; first | (rw [if_pos (by decide +kernel)]; kernel_rfl) | (rw [if_neg (by decide +kernel)]; exact ⟨rfl, rfl⟩))
    (fun os started H enc _ => CorpusFind.lifted os started H enc)
end Go.Proofs.Ytkgpkbclfncnfaa
