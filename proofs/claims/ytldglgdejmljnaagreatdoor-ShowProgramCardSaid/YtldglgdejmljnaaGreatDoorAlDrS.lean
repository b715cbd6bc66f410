/- A region that draws its order, where nothing in memory turns: the text's order, with little carried along. No statement is proved here. -/
import Derived.Test.YtldglgdejmljnaaGreatDoorAlGift
namespace Go.Proofs.YtldglgdejmljnaaGreatDoor
open Go.RowKit
set_option linter.unusedVariables false

/-- a region in the text's order, whose operations and calls leave the state as it was -/
def awpS (P : Program) (ops : Array Oper) (K : List AV → ASt → Prop) (S : ASt) : List Oper → List AV → Prop
  | [], fr => K fr S
  | o :: os, fr =>
    match wantA ops o fr with
    | some true =>
      match callA o fr with
      | some (F, args) => ∃ r, ADet P F args S r S ∧ awpS P ops K S os (putA fr o.dst r)
      | none =>
        match evL P o fr S with
        | some (v, _) => awpS P ops K S os (putA fr o.dst v)
        | none =>
          match stepF P o fr S with
          | some (v, S') => S' = S ∧ awpS P ops K S os (putA fr o.dst v)
          | none => False
    | some false => awpS P ops K S os (putA fr o.dst .un)
    | none => False
/-- a call, and what comes behind it, shut -/
def NextS (P : Program) (ops : Array Oper) (K : List AV → ASt → Prop) (S : ASt) (os : List Oper) (fr : List AV) (dst : Option Nat) (r : AV) : Prop := awpS P ops K S os (putA fr dst r)
@[reducible] def CallS (P : Program) (F : Nat) (args : List AV) (S : ASt) (K : AV → Prop) : Prop := ∃ r, ADet P F args S r S ∧ K r
theorem nextS_eq {P : Program} {ops : Array Oper} {K : List AV → ASt → Prop} {S : ASt} (os : List Oper) {fr : List AV} (dst : Option Nat) (r : AV) : NextS P ops K S os fr dst r = awpS P ops K S os (putA fr dst r) := rfl
theorem awpS_nil {P : Program} {ops : Array Oper} {K : List AV → ASt → Prop} {S : ASt} {fr : List AV} : awpS P ops K S [] fr = K fr S := by rw [awpS]
theorem awpS_cons {P : Program} {ops : Array Oper} {K : List AV → ASt → Prop} {S : ASt} (o : Oper) (os : List Oper) {fr : List AV} : awpS P ops K S (o :: os) fr = (match wantA ops o fr with
    | some true =>
      match callA o fr with
      | some (F, args) => CallS P F args S (NextS P ops K S os fr o.dst)
      | none =>
        match evL P o fr S with
        | some (v, _) => awpS P ops K S os (putA fr o.dst v)
        | none =>
          match stepF P o fr S with
          | some (v, S') => S' = S ∧ awpS P ops K S os (putA fr o.dst v)
          | none => False
    | some false => awpS P ops K S os (putA fr o.dst .un)
    | none => False) := by rw [awpS]; rfl
theorem getD_all {α : Type} {l : List α} {x d : α} (h : ∀ y ∈ l, y = x) {j : Nat} (hj : j < l.length) : l.getD j d = x := by
  rw [List.getD, List.getElem?_eq_getElem hj]
  exact h _ (List.getElem_mem hj)
theorem lcl_const {Ss : List ASt} {S : ASt} (h : ∀ T ∈ Ss, T = S) {i m : Nat} (hm : m + 1 < Ss.length) : ∀ ls : List (Nat × Nat × Nat), LCl Ss i m ls
  | [] => trivial
  | (j, d, k) :: ls => ⟨fun _ => by rw [getD_all h hm, getD_all h (by omega)], lcl_const h hm ls⟩
theorem lcp_const {Ss : List ASt} {S : ASt} (h : ∀ T ∈ Ss, T = S) {ls : List (Nat × Nat × Nat)} : ∀ prs : List (Nat × Nat), (∀ p ∈ prs, p.2 + 1 < Ss.length) → LCp Ss ls prs
  | [], _ => trivial
  | (i, m) :: prs, hp => ⟨lcl_const h (hp (i, m) (by simp)) ls, lcp_const h prs fun p hm => hp p (by simp [hm])⟩
theorem awpS_D {P : Program} {ops : Array Oper} {prs : List (Nat × Nat)} {K : List AV → ASt → Prop} {S : ASt} (n : Nat) (hp : ∀ p ∈ prs, p.2 < n) : ∀ (os : List Oper) (i : Nat) (fr : List AV) (Vs : List AV) (Ss : List ASt) (ls : List (Nat × Nat × Nat)), Ss.length = i + 1 → (∀ T ∈ Ss, T = S) → i + os.length = n →
    awpS P ops K S os fr → awpD P ops prs K os i fr S Vs Ss ls
  | [], i, fr, Vs, Ss, ls, h1, h2, h3, h => by
    rw [awpS] at h
    rw [awpD]
    exact ⟨lcp_const h2 prs fun p hm => by have := hp p hm; simp at h3; omega, h⟩
  | o :: os, i, fr, Vs, Ss, ls, h1, h2, h3, h => by
    have g1 : (Ss ++ [S]).length = (i + 1) + 1 := by simp [h1]
    have g2 : ∀ T ∈ Ss ++ [S], T = S := fun T hT => by
      rcases List.mem_append.1 hT with h | h
      · exact h2 T h
      · simpa using h
    have g3 : i + 1 + os.length = n := by simp at h3; omega
    rw [awpS] at h
    rw [awpD]
    split
    · rename_i hw
      rw [hw] at h
      simp only at h
      split
      · rename_i F args hc
        rw [hc] at h
        obtain ⟨r, k1, k2⟩ := h
        exact ⟨r, S, k1, awpS_D n hp os (i + 1) _ _ _ _ g1 g2 g3 k2⟩
      · rename_i hc
        rw [hc] at h
        simp only at h
        split
        · rename_i v ref he
          rw [he] at h
          exact awpS_D n hp os (i + 1) _ _ _ _ g1 g2 g3 h
        · rename_i he
          rw [he] at h
          simp only at h
          split
          · rename_i v S' hs
            rw [hs] at h
            obtain ⟨rfl, h⟩ := h
            exact awpS_D n hp os (i + 1) _ _ _ _ g1 g2 g3 h
          · rename_i hs
            rw [hs] at h
            exact h.elim
    · rename_i hw
      rw [hw] at h
      exact awpS_D n hp os (i + 1) _ _ _ _ g1 g2 g3 h
    · rename_i hw
      rw [hw] at h
      exact h.elim
/-- a region that draws its order and turns nothing -/
theorem awp_drawS {P : Program} {ops : Array Oper} {id : Nat} {fr : List AV} {S : ASt} {Q : Exit → List AV → ASt → Prop} (prs : List (Nat × Nat)) (hst : statD ops = true) (hprs : needLC ops = prs) (hr : (prs.all fun p => decide (p.2 < ops.size)) = true) (h : awpS P ops (Q .normal) S ops.toList fr) : awp P (.region id ops true) fr S Q :=
  awp_draw prs hst hprs (awpS_D ops.size (fun p hp => by simpa using List.all_eq_true.1 hr p hp) ops.toList 0 fr [] [S] [] rfl (fun T hT => by simpa using hT) (by simp) h)
end Go.Proofs.YtldglgdejmljnaaGreatDoor
