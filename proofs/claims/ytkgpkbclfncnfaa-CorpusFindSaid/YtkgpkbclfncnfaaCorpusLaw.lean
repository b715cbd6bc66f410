/- CorpusFind: what the law asks of the tables. -/
import Derived.Test.YtkgpkbclfncnfaaCorpusNames
namespace Go.Proofs.Ytkgpkbclfncnfaa
open Go.RowKit
set_option linter.unusedVariables false

theorem nm_apart : (List.range 18).all (fun i => (List.range 18).all fun j => decide (i = j) || !((nm i).toList == (nm j).toList)) = true := by kernel_rfl
theorem nm_inj {i j : Nat} (hi : i < 18) (hj : j < 18) (h : (nm i).toList = (nm j).toList) : i = j := by
  have := List.all_eq_true.1 (List.all_eq_true.1 nm_apart i (List.mem_range.2 hi)) j (List.mem_range.2 hj)
  simpa [h] using this
theorem names_block {w : World} {B : Nat} {e : TypeId} {v : Value} (h : Made shStr w B e nms 18 v) : ∃ (g cap : Nat) (cs : Array Value), v = .slice (some ⟨g, 0, none⟩) 18 cap ∧ B ≤ g ∧ w.heap[g]? = some (.cells cs e (0, 0)) ∧ ∀ j, j < 18 → cs[j]? = some (.string (nm j)) := by
  obtain ⟨hl, xs, h1, h2⟩ := h
  rcases h1.2 with ⟨_, hn⟩ | ⟨g, cap, cur, rfl, hb, hg, hn, hc, hs, ht⟩
  · omega
  · refine ⟨g, cap, cur, rfl, hb, hg, fun j hj => ?_⟩
    obtain ⟨f, hf, hcell⟩ := h2 j (nm j) (by simp [nms, hj])
    have h3 := hcell 0 (by show 0 < 1; omega)
    have hf0 : f 0 = .string (nm j) := hf.1
    have hz : shStr.size = 1 := rfl
    rw [hf0, hz, Nat.mul_one, Nat.add_zero, ← ht] at h3
    have hlt := (List.getElem?_eq_some_iff.1 h3).1
    rw [List.length_take] at hlt
    rw [List.getElem?_take_of_lt (by omega)] at h3
    rw [← h3, Array.getElem?_toList]
end Go.Proofs.Ytkgpkbclfncnfaa
