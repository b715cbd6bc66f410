/- weftwaylaw06.NamesFind: all cases. Its row is in a text of its own. -/
import Derived.Test.YtlfgjnnecglleaaNmL
namespace Go.Proofs.Ytlfgjnnecglleaa
open Go.RowKit
attribute [local simp] List.replicate List.range List.range.loop resA resOne retA AV.cuts AV.cut AObj.cut trim wkR wkT wkL wkN wkNR wkNL wkM wkMR wkML
set_option linter.unusedVariables false
set_option linter.unusedSimpArgs false
theorem nmO_len (m : Nat) (p : List It) : (nmO m p).length = 15 + 6 * p.length := by
  unfold nmO
  rw [List.length_append, List.length_append, prO_len, List.length_replicate]
  simp
  omega
theorem nmO_get (m : Nat) (p : List It) (k : Nat) {o : AObj} (h : (prO (m + 13) p)[k]? = some o) : (nmO m p)[13 + k]? = some o := by
  unfold nmO
  have hk := (List.getElem?_eq_some_iff.1 h).1
  rw [List.getElem?_append_right (by rw [List.length_replicate]; omega), List.length_replicate, Nat.add_sub_cancel_left, List.getElem?_append_left hk, h]
theorem nmO_wk (p : List It) : ∀ o ∈ nmO 2 p, ∀ N, 15 + 6 * p.length ≤ N → wkL [o.cut (N + 2)] [o] := fun o ho N hN => by
  unfold nmO at ho
  simp only [List.mem_append, List.mem_singleton] at ho
  rcases ho with h | h | rfl
  · rw [List.eq_of_mem_replicate h]; trivial
  · exact prO_wk _ _ _ (by omega) o h
  · trivial
set_option maxRecDepth 100000 in
set_option maxHeartbeats 32000000 in
theorem namesFindC (p : List It) (k : Int) (s : ByteArray) (S : ASt) : ADet Try.prog 3 [.agg [.p (prog p)], U k, Sg s] S (B true) S := by
  have gC := fun S => greatC S p
  cases hg : great p with
  | true =>
    rw [hg] at gC
    refine ADet.intro mixed Try.call3 Try.func3 rfl ?_
    simp [Try.ntmps3]
    refine ⟨_, _, gC _, ?_⟩
    simp
  | false =>
    by_cases hl : (1000 : Int) < (s.size : Int)
    · rw [hg] at gC
      refine ADet.intro mixed Try.call3 Try.func3 rfl ?_
      simp [Try.ntmps3]
      refine ⟨_, _, gC _, ?_⟩
      simp [hl]
    · have hp : PrSm p := pr_sm hg
      rcases findC p hp k s [.cells [.p (prog p)] 24, .cells [.p (prog p)] 24] S with ⟨hno, h⟩ | ⟨q, hq, hit, hlow, h⟩
      · exact nfMiss p k s S hg hl hp hno h
      · refine nfHit p k s S hg hl hp q hq p[q] rfl hit hlow (nmO 2 p) (15 + 6 * p.length) (13 + (6 * q + 4)) (13 + (6 * q + 5)) (nmO_len 2 p) (by omega) (by omega) (by omega) (nmO_wk p) (nmO_get 2 p _ (prO_get 15 p hq).1) (nmO_get 2 p _ (prO_get 15 p hq).2) ?_
        have e1 : 13 + (6 * q + 4) + 2 = 2 + 13 + 6 * q + 4 := by omega
        have e2 : 13 + (6 * q + 5) + 2 = 2 + 13 + 6 * q + 5 := by omega
        rw [e1, e2]
        exact h
end Go.Proofs.Ytlfgjnnecglleaa
