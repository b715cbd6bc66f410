/- A logic over abstract values: regions in which lists are built that stay one's own. No statement is proved here. -/
import Derived.Test.YtnblhbpfgdjnkaaGreatDoorMLb
namespace Go.Proofs.YtnblhbpfgdjnkaaGreatDoor
open Go.RowKit
set_option linter.unusedVariables false

/-! ### Lists that are built and stay one's own -/
/-- the lists that rows names are marked, and those that own names -/
def ownO (rows own : List Nat) (k : Nat) (o : Oper) : Oper :=
  match o.op with
  | .buildSlice _ _ _ => if own.contains k = true then { o with type := 4294967294 } else if rows.contains k = true then { o with type := 4294967295 } else o
  | _ => o
def ownL (rows own : List Nat) : Nat → List Oper → List Oper
  | _, [] => []
  | k, o :: os => ownO rows own k o :: ownL rows own (k + 1) os
theorem ownL_get (rows own : List Nat) : ∀ (os : List Oper) (k i : Nat), (ownL rows own k os)[i]? = (os[i]?).map (ownO rows own (k + i))
  | [], k, i => by simp [ownL]
  | o :: os, k, 0 => by simp [ownL]
  | o :: os, k, i + 1 => by
    simp only [ownL, List.getElem?_cons_succ]
    rw [ownL_get rows own os (k + 1) i]
    congr 2
    omega
theorem ownL_len (rows own : List Nat) : ∀ (os : List Oper) (k : Nat), (ownL rows own k os).length = os.length
  | [], k => rfl
  | o :: os, k => by simp [ownL, ownL_len rows own os]
def ownR (rows own : List Nat) (ops : Array Oper) : Array Oper := (ownL rows own 0 ops.toList).toArray
section
variable {P : Program} {ops : Array Oper} {rows own : List Nat}
theorem ownR_get (i : Nat) : (ownR rows own ops)[i]? = (ops[i]?).map (ownO rows own i) := by
  unfold ownR
  rw [List.getElem?_toArray, ownL_get, Nat.zero_add, Array.getElem?_toList]
theorem ownO_same (k : Nat) (o : Oper) : (ownO rows own k o).dst = o.dst ∧ (ownO rows own k o).guard = o.guard ∧ (ownO rows own k o).after = o.after := by
  unfold ownO
  split
  · split
    · exact ⟨rfl, rfl, rfl⟩
    · split <;> exact ⟨rfl, rfl, rfl⟩
  · exact ⟨rfl, rfl, rfl⟩
theorem own_wp {k : Nat} {o : Oper} {a : Act} {w : World} {next : Act → World → Prop} {Q : Exit → Act → World → Prop} (h : (ownO rows own k o).wp P a w next Q) : o.wp P a w next Q := by
  unfold ownO at h
  split at h
  · rename_i t n p ho
    split at h
    · obtain ⟨dst, op, ty, pos, after, guard⟩ := o
      simp only at ho
      subst ho
      exact h
    · split at h
      · obtain ⟨dst, op, ty, pos, after, guard⟩ := o
        simp only at ho
        subst ho
        exact h
      · exact h
  · exact h
theorem own_asks {k : Nat} {o : Oper} {a : Act} {w : World} (h : (ownO rows own k o).asks P a w) : o.asks P a w := by
  unfold ownO at h
  split at h
  · rename_i t n p ho
    split at h
    · obtain ⟨dst, op, ty, pos, after, guard⟩ := o
      simp only at ho
      subst ho
      exact h
    · split at h
      · obtain ⟨dst, op, ty, pos, after, guard⟩ := o
        simp only at ho
        subst ho
        exact h
      · exact h
  · exact h
theorem own_yielded (ts : Array Value) : yielded (ownR rows own ops) ts = yielded ops ts := by
  funext j
  unfold yielded
  have e : ((ownR rows own ops)[j]?).bind (·.dst) = (ops[j]?).bind (·.dst) := by
    rw [ownR_get]
    cases ops[j]? with
    | none => rfl
    | some x => exact (ownO_same j x).1
  rw [e]
theorem own_ready (listed : Array Bool) : Region.ready .any (ownR rows own ops) listed = Region.ready .any ops listed := by
  have hsize : (ownR rows own ops).size = ops.size := by simp [ownR, ownL_len]
  unfold Region.ready
  rw [hsize]
  refine List.filter_congr fun j hj => ?_
  rw [ownR_get]
  cases ops[j]? with
  | none => rfl
  | some x => simp only [Option.map_some, (ownO_same j x).2.2]
theorem own_any {Q : Exit → Act → World → Prop} : ∀ (n : Nat) (listed : Array Bool) (a : Act) (w : World), wpAny P .any (ownR rows own ops) Q n listed a w → wpAny P .any ops Q n listed a w
  | 0, listed, a, w, h => by
    unfold wpAny at h ⊢
    rwa [own_ready] at h
  | n + 1, listed, a, w, h => by
    unfold wpAny at h ⊢
    rw [own_ready] at h
    refine ⟨h.1, fun i hi => ?_⟩
    have h2 := h.2 i hi
    unfold wpOp at h2 ⊢
    rw [ownR_get] at h2
    cases ho : ops[i]? with
    | none =>
      simp only [ho, Option.map_none] at h2 ⊢
      exact own_any n _ _ _ h2
    | some o =>
      simp only [ho, Option.map_some] at h2 ⊢
      have hw : Region.wanted (ownO rows own i o) (yielded (ownR rows own ops) a.tmps) = Region.wanted o (yielded ops a.tmps) := by
        unfold Region.wanted
        rw [(ownO_same i o).2.1, own_yielded]
      rw [hw] at h2
      split
      · rename_i hq
        rw [if_pos hq] at h2
        rcases h2 with h2 | ⟨h2, h3⟩
        · exact .inl (own_wp (rows := rows) (own := own) (k := i) (by
            have : ∀ a' w', wpAny P .any (ownR rows own ops) Q n (listed.setIfInBounds i true) a' w' → wpAny P .any ops Q n (listed.setIfInBounds i true) a' w' := fun a' w' => own_any n _ a' w'
            exact Oper.wp_mono this h2))
        · exact .inr ⟨own_asks (rows := rows) (own := own) (k := i) h2, h3⟩
      · rename_i hq
        rw [if_neg hq, (ownO_same i o).1] at h2
        exact own_any n _ _ _ h2
theorem awp_own {id : Nat} {fr : List AV} {S : ASt} {Q : Exit → List AV → ASt → Prop} (rows own : List Nat) (h : awp P (.region id (ownR rows own ops) true) fr S Q) : awp P (.region id ops true) fr S Q := by
  have hsize : (ownR rows own ops).size = ops.size := by simp [ownR, ownL_len]
  have h' : ARegion P (ownR rows own ops) fr S Q := h
  have key : ARegion P ops fr S Q := by
    intro Pr0 φ0 a0 w0 Pr φ a w hf hR hne hs hdf
    have := h' Pr0 φ0 a0 w0 Pr φ a w hf hR hne hs hdf
    rw [hsize] at this
    exact own_any _ _ _ _ this
  exact key
/-- a region that draws its order, where some lists are built that are only read -/
theorem awp_drawO {id : Nat} {fr : List AV} {S : ASt} {Q : Exit → List AV → ASt → Prop} (rows own : List Nat) (prs : List (Nat × Nat)) (hst : statD (ownR rows own ops) = true) (hprs : needLC (ownR rows own ops) = prs) (h : awpD P (ownR rows own ops) prs (Q .normal) (ownL rows own 0 ops.toList) 0 fr S [] [S] []) : awp P (.region id ops true) fr S Q :=
  awp_own rows own (awp_draw prs hst hprs (by simpa [ownR] using h))
end
end Go.Proofs.YtnblhbpfgdjnkaaGreatDoor
