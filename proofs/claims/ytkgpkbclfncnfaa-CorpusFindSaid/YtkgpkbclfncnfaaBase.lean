/- Plain data of the program's trees (types, places, expressions, statements, items), and what it is for a row of cells to read as one: no statement is proved here. -/
import Derived.WalkKit
import Derived.WalkSpells
import Derived.WalkLawsBesides
import Derived.Lib.Hide
namespace Go.Proofs.Ytkgpkbclfncnfaa
open Go.RowKit
set_option linter.unusedVariables false

/-! ### Worlds -/
theorem bcell {W w1 : World} (hb : Below W.heap.size W w1) : (∀ b o, b < W.heap.size → w1.cell? ⟨b, o, none⟩ = W.cell? ⟨b, o, none⟩) ∧ (∀ b o, b < W.heap.size → w1.frozen? ⟨b, o, none⟩ = W.frozen? ⟨b, o, none⟩) :=
  ⟨fun b o h => hb.cell (p := ⟨b, o, none⟩) h, fun b o h => hb.frozen (p := ⟨b, o, none⟩) h⟩

theorem lt_of_cell {w : World} {b o : Nat} {v : Value} (h : w.cell? ⟨b, o, none⟩ = some v) : b < w.heap.size := by
  rcases Nat.lt_or_ge b w.heap.size with hlt | hge
  · exact hlt
  · simp [World.cell?, Array.getElem?_eq_none hge] at h

theorem cell_blk {w : World} {g : Nat} {t : TypeId} {cs : Array Value} (h : w.heap[g]? = some (.cells cs t (0, 0))) (i : Nat) : w.cell? ⟨g, i, none⟩ = cs[i]? := by simp [World.cell?, h]
theorem frozen_blk {w : World} {g : Nat} {t : TypeId} {cs : Array Value} (h : w.heap[g]? = some (.cells cs t (0, 0))) (i : Nat) : w.frozen? ⟨g, i, none⟩ = false := by simp [World.frozen?, h]
theorem blk_new (w : World) (o : Obj) : (w.alloc o).heap[w.heap.size]? = some o := heap_alloc_new w o
theorem blk_below {w w' : World} {B g : Nat} {o : Obj} (h : w.heap[g]? = some o) (hb : Below B w w') (hg : g < B) : w'.heap[g]? = some o := (hb.block g hg).trans h
theorem blk_lt {w : World} {g : Nat} {o : Obj} (h : w.heap[g]? = some o) : g < w.heap.size := by
  rcases Nat.lt_or_ge g w.heap.size with hlt | hge
  · exact hlt
  · rw [Array.getElem?_eq_none hge] at h; cases h
theorem blk_alloc {w : World} {g : Nat} {o : Obj} (h : w.heap[g]? = some o) (o' : Obj) : (w.alloc o').heap[g]? = some o := (Below.heap_alloc w o' g (blk_lt h)).trans h
theorem blk_set {w : World} {g : Nat} {t : TypeId} {cs : Array Value} (h : w.heap[g]? = some (.cells cs t (0, 0))) (i : Nat) (u : Value) : (w.setCell ⟨g, i, none⟩ u).heap[g]? = some (.cells (cs.setIfInBounds i u) t (0, 0)) := by
  simp [World.setCell, Array.getElem?_modify, h]
theorem blk_far {w : World} {g : Nat} {o : Obj} (h : w.heap[g]? = some o) {p : Addr} (hp : g ≠ p.block) (u : Value) : (w.setCell p u).heap[g]? = some o := (Below.heap_setCell w p u g hp).trans h

/-- w' holds every cell that w holds, as it was, in the blocks of a set. -/
def Keeps (S : Nat → Prop) (w w' : World) : Prop := ∀ b, S b → ∀ o v, w.cell? ⟨b, o, none⟩ = some v → w'.cell? ⟨b, o, none⟩ = some v ∧ w'.frozen? ⟨b, o, none⟩ = w.frozen? ⟨b, o, none⟩
theorem Keeps.of_below {S : Nat → Prop} {w w' : World} (h : Below w.heap.size w w') : Keeps S w w' := fun b _ o v hv => ⟨((bcell h).1 b o (lt_of_cell hv)).trans hv, (bcell h).2 b o (lt_of_cell hv)⟩
theorem Keeps.trans {S : Nat → Prop} {a b c : World} (h : Keeps S a b) (k : Keeps S b c) : Keeps S a c := fun x hx o v hv => ⟨(k x hx o v (h x hx o v hv).1).1, ((k x hx o v (h x hx o v hv).1).2).trans (h x hx o v hv).2⟩
theorem Keeps.refl (S : Nat → Prop) (a : World) : Keeps S a a := fun _ _ _ _ h => ⟨h, rfl⟩
theorem Keeps.sub {S S' : Nat → Prop} {w w' : World} (h : Keeps S w w') (hs : ∀ b, S' b → S b) : Keeps S' w w' := fun b hb => h b (hs b hb)
/-- all blocks -/
abbrev Any : Nat → Prop := fun _ => True

theorem undrew {B : Nat} {w w1 : World} (h : Below B w.drew w1) : Below B w w1 := ⟨h.os, h.tape, h.output, h.size, h.block⟩
theorem keepc {w w1 : World} {b o : Nat} {v : Value} (hb : Below w.heap.size w w1) (h : w.cell? ⟨b, o, none⟩ = some v) : w1.cell? ⟨b, o, none⟩ = some v := (Keeps.of_below (S := Any) hb _ trivial _ _ h).1

theorem keep1 {w w1 : World} {b0 o0 : Nat} {v0 : Value} (hb : Below w.heap.size w w1) (h : w.cell? ⟨b0, o0, none⟩ = some v0) : w1.cell? ⟨b0, o0, none⟩ = some v0 := keepc hb h
theorem keep2 {w w1 : World} {b0 b1 o0 o1 : Nat} {v0 v1 : Value} (hb : Below w.heap.size w w1) (h : w.cell? ⟨b0, o0, none⟩ = some v0 ∧ w.cell? ⟨b1, o1, none⟩ = some v1) : w1.cell? ⟨b0, o0, none⟩ = some v0 ∧ w1.cell? ⟨b1, o1, none⟩ = some v1 := ⟨keepc hb h.1, keepc hb h.2⟩
theorem keep3 {w w1 : World} {b0 b1 b2 o0 o1 o2 : Nat} {v0 v1 v2 : Value} (hb : Below w.heap.size w w1) (h : w.cell? ⟨b0, o0, none⟩ = some v0 ∧ w.cell? ⟨b1, o1, none⟩ = some v1 ∧ w.cell? ⟨b2, o2, none⟩ = some v2) : w1.cell? ⟨b0, o0, none⟩ = some v0 ∧ w1.cell? ⟨b1, o1, none⟩ = some v1 ∧ w1.cell? ⟨b2, o2, none⟩ = some v2 := ⟨keepc hb h.1, keepc hb h.2.1, keepc hb h.2.2⟩
theorem keep4 {w w1 : World} {b0 b1 b2 b3 o0 o1 o2 o3 : Nat} {v0 v1 v2 v3 : Value} (hb : Below w.heap.size w w1) (h : w.cell? ⟨b0, o0, none⟩ = some v0 ∧ w.cell? ⟨b1, o1, none⟩ = some v1 ∧ w.cell? ⟨b2, o2, none⟩ = some v2 ∧ w.cell? ⟨b3, o3, none⟩ = some v3) : w1.cell? ⟨b0, o0, none⟩ = some v0 ∧ w1.cell? ⟨b1, o1, none⟩ = some v1 ∧ w1.cell? ⟨b2, o2, none⟩ = some v2 ∧ w1.cell? ⟨b3, o3, none⟩ = some v3 := ⟨keepc hb h.1, keepc hb h.2.1, keepc hb h.2.2.1, keepc hb h.2.2.2⟩
theorem keep5 {w w1 : World} {b0 b1 b2 b3 b4 o0 o1 o2 o3 o4 : Nat} {v0 v1 v2 v3 v4 : Value} (hb : Below w.heap.size w w1) (h : w.cell? ⟨b0, o0, none⟩ = some v0 ∧ w.cell? ⟨b1, o1, none⟩ = some v1 ∧ w.cell? ⟨b2, o2, none⟩ = some v2 ∧ w.cell? ⟨b3, o3, none⟩ = some v3 ∧ w.cell? ⟨b4, o4, none⟩ = some v4) : w1.cell? ⟨b0, o0, none⟩ = some v0 ∧ w1.cell? ⟨b1, o1, none⟩ = some v1 ∧ w1.cell? ⟨b2, o2, none⟩ = some v2 ∧ w1.cell? ⟨b3, o3, none⟩ = some v3 ∧ w1.cell? ⟨b4, o4, none⟩ = some v4 := ⟨keepc hb h.1, keepc hb h.2.1, keepc hb h.2.2.1, keepc hb h.2.2.2.1, keepc hb h.2.2.2.2⟩
theorem keep6 {w w1 : World} {b0 b1 b2 b3 b4 b5 o0 o1 o2 o3 o4 o5 : Nat} {v0 v1 v2 v3 v4 v5 : Value} (hb : Below w.heap.size w w1) (h : w.cell? ⟨b0, o0, none⟩ = some v0 ∧ w.cell? ⟨b1, o1, none⟩ = some v1 ∧ w.cell? ⟨b2, o2, none⟩ = some v2 ∧ w.cell? ⟨b3, o3, none⟩ = some v3 ∧ w.cell? ⟨b4, o4, none⟩ = some v4 ∧ w.cell? ⟨b5, o5, none⟩ = some v5) : w1.cell? ⟨b0, o0, none⟩ = some v0 ∧ w1.cell? ⟨b1, o1, none⟩ = some v1 ∧ w1.cell? ⟨b2, o2, none⟩ = some v2 ∧ w1.cell? ⟨b3, o3, none⟩ = some v3 ∧ w1.cell? ⟨b4, o4, none⟩ = some v4 ∧ w1.cell? ⟨b5, o5, none⟩ = some v5 := ⟨keepc hb h.1, keepc hb h.2.1, keepc hb h.2.2.1, keepc hb h.2.2.2.1, keepc hb h.2.2.2.2.1, keepc hb h.2.2.2.2.2⟩
theorem keep7 {w w1 : World} {b0 b1 b2 b3 b4 b5 b6 o0 o1 o2 o3 o4 o5 o6 : Nat} {v0 v1 v2 v3 v4 v5 v6 : Value} (hb : Below w.heap.size w w1) (h : w.cell? ⟨b0, o0, none⟩ = some v0 ∧ w.cell? ⟨b1, o1, none⟩ = some v1 ∧ w.cell? ⟨b2, o2, none⟩ = some v2 ∧ w.cell? ⟨b3, o3, none⟩ = some v3 ∧ w.cell? ⟨b4, o4, none⟩ = some v4 ∧ w.cell? ⟨b5, o5, none⟩ = some v5 ∧ w.cell? ⟨b6, o6, none⟩ = some v6) : w1.cell? ⟨b0, o0, none⟩ = some v0 ∧ w1.cell? ⟨b1, o1, none⟩ = some v1 ∧ w1.cell? ⟨b2, o2, none⟩ = some v2 ∧ w1.cell? ⟨b3, o3, none⟩ = some v3 ∧ w1.cell? ⟨b4, o4, none⟩ = some v4 ∧ w1.cell? ⟨b5, o5, none⟩ = some v5 ∧ w1.cell? ⟨b6, o6, none⟩ = some v6 := ⟨keepc hb h.1, keepc hb h.2.1, keepc hb h.2.2.1, keepc hb h.2.2.2.1, keepc hb h.2.2.2.2.1, keepc hb h.2.2.2.2.2.1, keepc hb h.2.2.2.2.2.2⟩
theorem keep8 {w w1 : World} {b0 b1 b2 b3 b4 b5 b6 b7 o0 o1 o2 o3 o4 o5 o6 o7 : Nat} {v0 v1 v2 v3 v4 v5 v6 v7 : Value} (hb : Below w.heap.size w w1) (h : w.cell? ⟨b0, o0, none⟩ = some v0 ∧ w.cell? ⟨b1, o1, none⟩ = some v1 ∧ w.cell? ⟨b2, o2, none⟩ = some v2 ∧ w.cell? ⟨b3, o3, none⟩ = some v3 ∧ w.cell? ⟨b4, o4, none⟩ = some v4 ∧ w.cell? ⟨b5, o5, none⟩ = some v5 ∧ w.cell? ⟨b6, o6, none⟩ = some v6 ∧ w.cell? ⟨b7, o7, none⟩ = some v7) : w1.cell? ⟨b0, o0, none⟩ = some v0 ∧ w1.cell? ⟨b1, o1, none⟩ = some v1 ∧ w1.cell? ⟨b2, o2, none⟩ = some v2 ∧ w1.cell? ⟨b3, o3, none⟩ = some v3 ∧ w1.cell? ⟨b4, o4, none⟩ = some v4 ∧ w1.cell? ⟨b5, o5, none⟩ = some v5 ∧ w1.cell? ⟨b6, o6, none⟩ = some v6 ∧ w1.cell? ⟨b7, o7, none⟩ = some v7 := ⟨keepc hb h.1, keepc hb h.2.1, keepc hb h.2.2.1, keepc hb h.2.2.2.1, keepc hb h.2.2.2.2.1, keepc hb h.2.2.2.2.2.1, keepc hb h.2.2.2.2.2.2.1, keepc hb h.2.2.2.2.2.2.2⟩
theorem keep9 {w w1 : World} {b0 b1 b2 b3 b4 b5 b6 b7 b8 o0 o1 o2 o3 o4 o5 o6 o7 o8 : Nat} {v0 v1 v2 v3 v4 v5 v6 v7 v8 : Value} (hb : Below w.heap.size w w1) (h : w.cell? ⟨b0, o0, none⟩ = some v0 ∧ w.cell? ⟨b1, o1, none⟩ = some v1 ∧ w.cell? ⟨b2, o2, none⟩ = some v2 ∧ w.cell? ⟨b3, o3, none⟩ = some v3 ∧ w.cell? ⟨b4, o4, none⟩ = some v4 ∧ w.cell? ⟨b5, o5, none⟩ = some v5 ∧ w.cell? ⟨b6, o6, none⟩ = some v6 ∧ w.cell? ⟨b7, o7, none⟩ = some v7 ∧ w.cell? ⟨b8, o8, none⟩ = some v8) : w1.cell? ⟨b0, o0, none⟩ = some v0 ∧ w1.cell? ⟨b1, o1, none⟩ = some v1 ∧ w1.cell? ⟨b2, o2, none⟩ = some v2 ∧ w1.cell? ⟨b3, o3, none⟩ = some v3 ∧ w1.cell? ⟨b4, o4, none⟩ = some v4 ∧ w1.cell? ⟨b5, o5, none⟩ = some v5 ∧ w1.cell? ⟨b6, o6, none⟩ = some v6 ∧ w1.cell? ⟨b7, o7, none⟩ = some v7 ∧ w1.cell? ⟨b8, o8, none⟩ = some v8 := ⟨keepc hb h.1, keepc hb h.2.1, keepc hb h.2.2.1, keepc hb h.2.2.2.1, keepc hb h.2.2.2.2.1, keepc hb h.2.2.2.2.2.1, keepc hb h.2.2.2.2.2.2.1, keepc hb h.2.2.2.2.2.2.2.1, keepc hb h.2.2.2.2.2.2.2.2⟩
theorem keep10 {w w1 : World} {b0 b1 b2 b3 b4 b5 b6 b7 b8 b9 o0 o1 o2 o3 o4 o5 o6 o7 o8 o9 : Nat} {v0 v1 v2 v3 v4 v5 v6 v7 v8 v9 : Value} (hb : Below w.heap.size w w1) (h : w.cell? ⟨b0, o0, none⟩ = some v0 ∧ w.cell? ⟨b1, o1, none⟩ = some v1 ∧ w.cell? ⟨b2, o2, none⟩ = some v2 ∧ w.cell? ⟨b3, o3, none⟩ = some v3 ∧ w.cell? ⟨b4, o4, none⟩ = some v4 ∧ w.cell? ⟨b5, o5, none⟩ = some v5 ∧ w.cell? ⟨b6, o6, none⟩ = some v6 ∧ w.cell? ⟨b7, o7, none⟩ = some v7 ∧ w.cell? ⟨b8, o8, none⟩ = some v8 ∧ w.cell? ⟨b9, o9, none⟩ = some v9) : w1.cell? ⟨b0, o0, none⟩ = some v0 ∧ w1.cell? ⟨b1, o1, none⟩ = some v1 ∧ w1.cell? ⟨b2, o2, none⟩ = some v2 ∧ w1.cell? ⟨b3, o3, none⟩ = some v3 ∧ w1.cell? ⟨b4, o4, none⟩ = some v4 ∧ w1.cell? ⟨b5, o5, none⟩ = some v5 ∧ w1.cell? ⟨b6, o6, none⟩ = some v6 ∧ w1.cell? ⟨b7, o7, none⟩ = some v7 ∧ w1.cell? ⟨b8, o8, none⟩ = some v8 ∧ w1.cell? ⟨b9, o9, none⟩ = some v9 := ⟨keepc hb h.1, keepc hb h.2.1, keepc hb h.2.2.1, keepc hb h.2.2.2.1, keepc hb h.2.2.2.2.1, keepc hb h.2.2.2.2.2.1, keepc hb h.2.2.2.2.2.2.1, keepc hb h.2.2.2.2.2.2.2.1, keepc hb h.2.2.2.2.2.2.2.2.1, keepc hb h.2.2.2.2.2.2.2.2.2⟩
theorem keep11 {w w1 : World} {b0 b1 b2 b3 b4 b5 b6 b7 b8 b9 b10 o0 o1 o2 o3 o4 o5 o6 o7 o8 o9 o10 : Nat} {v0 v1 v2 v3 v4 v5 v6 v7 v8 v9 v10 : Value} (hb : Below w.heap.size w w1) (h : w.cell? ⟨b0, o0, none⟩ = some v0 ∧ w.cell? ⟨b1, o1, none⟩ = some v1 ∧ w.cell? ⟨b2, o2, none⟩ = some v2 ∧ w.cell? ⟨b3, o3, none⟩ = some v3 ∧ w.cell? ⟨b4, o4, none⟩ = some v4 ∧ w.cell? ⟨b5, o5, none⟩ = some v5 ∧ w.cell? ⟨b6, o6, none⟩ = some v6 ∧ w.cell? ⟨b7, o7, none⟩ = some v7 ∧ w.cell? ⟨b8, o8, none⟩ = some v8 ∧ w.cell? ⟨b9, o9, none⟩ = some v9 ∧ w.cell? ⟨b10, o10, none⟩ = some v10) : w1.cell? ⟨b0, o0, none⟩ = some v0 ∧ w1.cell? ⟨b1, o1, none⟩ = some v1 ∧ w1.cell? ⟨b2, o2, none⟩ = some v2 ∧ w1.cell? ⟨b3, o3, none⟩ = some v3 ∧ w1.cell? ⟨b4, o4, none⟩ = some v4 ∧ w1.cell? ⟨b5, o5, none⟩ = some v5 ∧ w1.cell? ⟨b6, o6, none⟩ = some v6 ∧ w1.cell? ⟨b7, o7, none⟩ = some v7 ∧ w1.cell? ⟨b8, o8, none⟩ = some v8 ∧ w1.cell? ⟨b9, o9, none⟩ = some v9 ∧ w1.cell? ⟨b10, o10, none⟩ = some v10 := ⟨keepc hb h.1, keepc hb h.2.1, keepc hb h.2.2.1, keepc hb h.2.2.2.1, keepc hb h.2.2.2.2.1, keepc hb h.2.2.2.2.2.1, keepc hb h.2.2.2.2.2.2.1, keepc hb h.2.2.2.2.2.2.2.1, keepc hb h.2.2.2.2.2.2.2.2.1, keepc hb h.2.2.2.2.2.2.2.2.2.1, keepc hb h.2.2.2.2.2.2.2.2.2.2⟩
theorem keep12 {w w1 : World} {b0 b1 b2 b3 b4 b5 b6 b7 b8 b9 b10 b11 o0 o1 o2 o3 o4 o5 o6 o7 o8 o9 o10 o11 : Nat} {v0 v1 v2 v3 v4 v5 v6 v7 v8 v9 v10 v11 : Value} (hb : Below w.heap.size w w1) (h : w.cell? ⟨b0, o0, none⟩ = some v0 ∧ w.cell? ⟨b1, o1, none⟩ = some v1 ∧ w.cell? ⟨b2, o2, none⟩ = some v2 ∧ w.cell? ⟨b3, o3, none⟩ = some v3 ∧ w.cell? ⟨b4, o4, none⟩ = some v4 ∧ w.cell? ⟨b5, o5, none⟩ = some v5 ∧ w.cell? ⟨b6, o6, none⟩ = some v6 ∧ w.cell? ⟨b7, o7, none⟩ = some v7 ∧ w.cell? ⟨b8, o8, none⟩ = some v8 ∧ w.cell? ⟨b9, o9, none⟩ = some v9 ∧ w.cell? ⟨b10, o10, none⟩ = some v10 ∧ w.cell? ⟨b11, o11, none⟩ = some v11) : w1.cell? ⟨b0, o0, none⟩ = some v0 ∧ w1.cell? ⟨b1, o1, none⟩ = some v1 ∧ w1.cell? ⟨b2, o2, none⟩ = some v2 ∧ w1.cell? ⟨b3, o3, none⟩ = some v3 ∧ w1.cell? ⟨b4, o4, none⟩ = some v4 ∧ w1.cell? ⟨b5, o5, none⟩ = some v5 ∧ w1.cell? ⟨b6, o6, none⟩ = some v6 ∧ w1.cell? ⟨b7, o7, none⟩ = some v7 ∧ w1.cell? ⟨b8, o8, none⟩ = some v8 ∧ w1.cell? ⟨b9, o9, none⟩ = some v9 ∧ w1.cell? ⟨b10, o10, none⟩ = some v10 ∧ w1.cell? ⟨b11, o11, none⟩ = some v11 := ⟨keepc hb h.1, keepc hb h.2.1, keepc hb h.2.2.1, keepc hb h.2.2.2.1, keepc hb h.2.2.2.2.1, keepc hb h.2.2.2.2.2.1, keepc hb h.2.2.2.2.2.2.1, keepc hb h.2.2.2.2.2.2.2.1, keepc hb h.2.2.2.2.2.2.2.2.1, keepc hb h.2.2.2.2.2.2.2.2.2.1, keepc hb h.2.2.2.2.2.2.2.2.2.2.1, keepc hb h.2.2.2.2.2.2.2.2.2.2.2⟩
theorem keep13 {w w1 : World} {b0 b1 b2 b3 b4 b5 b6 b7 b8 b9 b10 b11 b12 o0 o1 o2 o3 o4 o5 o6 o7 o8 o9 o10 o11 o12 : Nat} {v0 v1 v2 v3 v4 v5 v6 v7 v8 v9 v10 v11 v12 : Value} (hb : Below w.heap.size w w1) (h : w.cell? ⟨b0, o0, none⟩ = some v0 ∧ w.cell? ⟨b1, o1, none⟩ = some v1 ∧ w.cell? ⟨b2, o2, none⟩ = some v2 ∧ w.cell? ⟨b3, o3, none⟩ = some v3 ∧ w.cell? ⟨b4, o4, none⟩ = some v4 ∧ w.cell? ⟨b5, o5, none⟩ = some v5 ∧ w.cell? ⟨b6, o6, none⟩ = some v6 ∧ w.cell? ⟨b7, o7, none⟩ = some v7 ∧ w.cell? ⟨b8, o8, none⟩ = some v8 ∧ w.cell? ⟨b9, o9, none⟩ = some v9 ∧ w.cell? ⟨b10, o10, none⟩ = some v10 ∧ w.cell? ⟨b11, o11, none⟩ = some v11 ∧ w.cell? ⟨b12, o12, none⟩ = some v12) : w1.cell? ⟨b0, o0, none⟩ = some v0 ∧ w1.cell? ⟨b1, o1, none⟩ = some v1 ∧ w1.cell? ⟨b2, o2, none⟩ = some v2 ∧ w1.cell? ⟨b3, o3, none⟩ = some v3 ∧ w1.cell? ⟨b4, o4, none⟩ = some v4 ∧ w1.cell? ⟨b5, o5, none⟩ = some v5 ∧ w1.cell? ⟨b6, o6, none⟩ = some v6 ∧ w1.cell? ⟨b7, o7, none⟩ = some v7 ∧ w1.cell? ⟨b8, o8, none⟩ = some v8 ∧ w1.cell? ⟨b9, o9, none⟩ = some v9 ∧ w1.cell? ⟨b10, o10, none⟩ = some v10 ∧ w1.cell? ⟨b11, o11, none⟩ = some v11 ∧ w1.cell? ⟨b12, o12, none⟩ = some v12 := ⟨keepc hb h.1, keepc hb h.2.1, keepc hb h.2.2.1, keepc hb h.2.2.2.1, keepc hb h.2.2.2.2.1, keepc hb h.2.2.2.2.2.1, keepc hb h.2.2.2.2.2.2.1, keepc hb h.2.2.2.2.2.2.2.1, keepc hb h.2.2.2.2.2.2.2.2.1, keepc hb h.2.2.2.2.2.2.2.2.2.1, keepc hb h.2.2.2.2.2.2.2.2.2.2.1, keepc hb h.2.2.2.2.2.2.2.2.2.2.2.1, keepc hb h.2.2.2.2.2.2.2.2.2.2.2.2⟩
theorem keep14 {w w1 : World} {b0 b1 b2 b3 b4 b5 b6 b7 b8 b9 b10 b11 b12 b13 o0 o1 o2 o3 o4 o5 o6 o7 o8 o9 o10 o11 o12 o13 : Nat} {v0 v1 v2 v3 v4 v5 v6 v7 v8 v9 v10 v11 v12 v13 : Value} (hb : Below w.heap.size w w1) (h : w.cell? ⟨b0, o0, none⟩ = some v0 ∧ w.cell? ⟨b1, o1, none⟩ = some v1 ∧ w.cell? ⟨b2, o2, none⟩ = some v2 ∧ w.cell? ⟨b3, o3, none⟩ = some v3 ∧ w.cell? ⟨b4, o4, none⟩ = some v4 ∧ w.cell? ⟨b5, o5, none⟩ = some v5 ∧ w.cell? ⟨b6, o6, none⟩ = some v6 ∧ w.cell? ⟨b7, o7, none⟩ = some v7 ∧ w.cell? ⟨b8, o8, none⟩ = some v8 ∧ w.cell? ⟨b9, o9, none⟩ = some v9 ∧ w.cell? ⟨b10, o10, none⟩ = some v10 ∧ w.cell? ⟨b11, o11, none⟩ = some v11 ∧ w.cell? ⟨b12, o12, none⟩ = some v12 ∧ w.cell? ⟨b13, o13, none⟩ = some v13) : w1.cell? ⟨b0, o0, none⟩ = some v0 ∧ w1.cell? ⟨b1, o1, none⟩ = some v1 ∧ w1.cell? ⟨b2, o2, none⟩ = some v2 ∧ w1.cell? ⟨b3, o3, none⟩ = some v3 ∧ w1.cell? ⟨b4, o4, none⟩ = some v4 ∧ w1.cell? ⟨b5, o5, none⟩ = some v5 ∧ w1.cell? ⟨b6, o6, none⟩ = some v6 ∧ w1.cell? ⟨b7, o7, none⟩ = some v7 ∧ w1.cell? ⟨b8, o8, none⟩ = some v8 ∧ w1.cell? ⟨b9, o9, none⟩ = some v9 ∧ w1.cell? ⟨b10, o10, none⟩ = some v10 ∧ w1.cell? ⟨b11, o11, none⟩ = some v11 ∧ w1.cell? ⟨b12, o12, none⟩ = some v12 ∧ w1.cell? ⟨b13, o13, none⟩ = some v13 := ⟨keepc hb h.1, keepc hb h.2.1, keepc hb h.2.2.1, keepc hb h.2.2.2.1, keepc hb h.2.2.2.2.1, keepc hb h.2.2.2.2.2.1, keepc hb h.2.2.2.2.2.2.1, keepc hb h.2.2.2.2.2.2.2.1, keepc hb h.2.2.2.2.2.2.2.2.1, keepc hb h.2.2.2.2.2.2.2.2.2.1, keepc hb h.2.2.2.2.2.2.2.2.2.2.1, keepc hb h.2.2.2.2.2.2.2.2.2.2.2.1, keepc hb h.2.2.2.2.2.2.2.2.2.2.2.2.1, keepc hb h.2.2.2.2.2.2.2.2.2.2.2.2.2⟩
theorem keep15 {w w1 : World} {b0 b1 b2 b3 b4 b5 b6 b7 b8 b9 b10 b11 b12 b13 b14 o0 o1 o2 o3 o4 o5 o6 o7 o8 o9 o10 o11 o12 o13 o14 : Nat} {v0 v1 v2 v3 v4 v5 v6 v7 v8 v9 v10 v11 v12 v13 v14 : Value} (hb : Below w.heap.size w w1) (h : w.cell? ⟨b0, o0, none⟩ = some v0 ∧ w.cell? ⟨b1, o1, none⟩ = some v1 ∧ w.cell? ⟨b2, o2, none⟩ = some v2 ∧ w.cell? ⟨b3, o3, none⟩ = some v3 ∧ w.cell? ⟨b4, o4, none⟩ = some v4 ∧ w.cell? ⟨b5, o5, none⟩ = some v5 ∧ w.cell? ⟨b6, o6, none⟩ = some v6 ∧ w.cell? ⟨b7, o7, none⟩ = some v7 ∧ w.cell? ⟨b8, o8, none⟩ = some v8 ∧ w.cell? ⟨b9, o9, none⟩ = some v9 ∧ w.cell? ⟨b10, o10, none⟩ = some v10 ∧ w.cell? ⟨b11, o11, none⟩ = some v11 ∧ w.cell? ⟨b12, o12, none⟩ = some v12 ∧ w.cell? ⟨b13, o13, none⟩ = some v13 ∧ w.cell? ⟨b14, o14, none⟩ = some v14) : w1.cell? ⟨b0, o0, none⟩ = some v0 ∧ w1.cell? ⟨b1, o1, none⟩ = some v1 ∧ w1.cell? ⟨b2, o2, none⟩ = some v2 ∧ w1.cell? ⟨b3, o3, none⟩ = some v3 ∧ w1.cell? ⟨b4, o4, none⟩ = some v4 ∧ w1.cell? ⟨b5, o5, none⟩ = some v5 ∧ w1.cell? ⟨b6, o6, none⟩ = some v6 ∧ w1.cell? ⟨b7, o7, none⟩ = some v7 ∧ w1.cell? ⟨b8, o8, none⟩ = some v8 ∧ w1.cell? ⟨b9, o9, none⟩ = some v9 ∧ w1.cell? ⟨b10, o10, none⟩ = some v10 ∧ w1.cell? ⟨b11, o11, none⟩ = some v11 ∧ w1.cell? ⟨b12, o12, none⟩ = some v12 ∧ w1.cell? ⟨b13, o13, none⟩ = some v13 ∧ w1.cell? ⟨b14, o14, none⟩ = some v14 := ⟨keepc hb h.1, keepc hb h.2.1, keepc hb h.2.2.1, keepc hb h.2.2.2.1, keepc hb h.2.2.2.2.1, keepc hb h.2.2.2.2.2.1, keepc hb h.2.2.2.2.2.2.1, keepc hb h.2.2.2.2.2.2.2.1, keepc hb h.2.2.2.2.2.2.2.2.1, keepc hb h.2.2.2.2.2.2.2.2.2.1, keepc hb h.2.2.2.2.2.2.2.2.2.2.1, keepc hb h.2.2.2.2.2.2.2.2.2.2.2.1, keepc hb h.2.2.2.2.2.2.2.2.2.2.2.2.1, keepc hb h.2.2.2.2.2.2.2.2.2.2.2.2.2.1, keepc hb h.2.2.2.2.2.2.2.2.2.2.2.2.2.2⟩
theorem keep16 {w w1 : World} {b0 b1 b2 b3 b4 b5 b6 b7 b8 b9 b10 b11 b12 b13 b14 b15 o0 o1 o2 o3 o4 o5 o6 o7 o8 o9 o10 o11 o12 o13 o14 o15 : Nat} {v0 v1 v2 v3 v4 v5 v6 v7 v8 v9 v10 v11 v12 v13 v14 v15 : Value} (hb : Below w.heap.size w w1) (h : w.cell? ⟨b0, o0, none⟩ = some v0 ∧ w.cell? ⟨b1, o1, none⟩ = some v1 ∧ w.cell? ⟨b2, o2, none⟩ = some v2 ∧ w.cell? ⟨b3, o3, none⟩ = some v3 ∧ w.cell? ⟨b4, o4, none⟩ = some v4 ∧ w.cell? ⟨b5, o5, none⟩ = some v5 ∧ w.cell? ⟨b6, o6, none⟩ = some v6 ∧ w.cell? ⟨b7, o7, none⟩ = some v7 ∧ w.cell? ⟨b8, o8, none⟩ = some v8 ∧ w.cell? ⟨b9, o9, none⟩ = some v9 ∧ w.cell? ⟨b10, o10, none⟩ = some v10 ∧ w.cell? ⟨b11, o11, none⟩ = some v11 ∧ w.cell? ⟨b12, o12, none⟩ = some v12 ∧ w.cell? ⟨b13, o13, none⟩ = some v13 ∧ w.cell? ⟨b14, o14, none⟩ = some v14 ∧ w.cell? ⟨b15, o15, none⟩ = some v15) : w1.cell? ⟨b0, o0, none⟩ = some v0 ∧ w1.cell? ⟨b1, o1, none⟩ = some v1 ∧ w1.cell? ⟨b2, o2, none⟩ = some v2 ∧ w1.cell? ⟨b3, o3, none⟩ = some v3 ∧ w1.cell? ⟨b4, o4, none⟩ = some v4 ∧ w1.cell? ⟨b5, o5, none⟩ = some v5 ∧ w1.cell? ⟨b6, o6, none⟩ = some v6 ∧ w1.cell? ⟨b7, o7, none⟩ = some v7 ∧ w1.cell? ⟨b8, o8, none⟩ = some v8 ∧ w1.cell? ⟨b9, o9, none⟩ = some v9 ∧ w1.cell? ⟨b10, o10, none⟩ = some v10 ∧ w1.cell? ⟨b11, o11, none⟩ = some v11 ∧ w1.cell? ⟨b12, o12, none⟩ = some v12 ∧ w1.cell? ⟨b13, o13, none⟩ = some v13 ∧ w1.cell? ⟨b14, o14, none⟩ = some v14 ∧ w1.cell? ⟨b15, o15, none⟩ = some v15 := ⟨keepc hb h.1, keepc hb h.2.1, keepc hb h.2.2.1, keepc hb h.2.2.2.1, keepc hb h.2.2.2.2.1, keepc hb h.2.2.2.2.2.1, keepc hb h.2.2.2.2.2.2.1, keepc hb h.2.2.2.2.2.2.2.1, keepc hb h.2.2.2.2.2.2.2.2.1, keepc hb h.2.2.2.2.2.2.2.2.2.1, keepc hb h.2.2.2.2.2.2.2.2.2.2.1, keepc hb h.2.2.2.2.2.2.2.2.2.2.2.1, keepc hb h.2.2.2.2.2.2.2.2.2.2.2.2.1, keepc hb h.2.2.2.2.2.2.2.2.2.2.2.2.2.1, keepc hb h.2.2.2.2.2.2.2.2.2.2.2.2.2.2.1, keepc hb h.2.2.2.2.2.2.2.2.2.2.2.2.2.2.2⟩

/-! ### Slices that read as lists -/

/-- A slice of elements of 'size' cells each, in blocks from 'S' on, reads as a list. -/
def RdSl {α : Type} (w : World) (S : Nat → Prop) (size : Nat) (R : α → (Nat → Value) → Prop) (l : List α) (v : Value) : Prop :=
  ∃ A cap, v = .slice A l.length cap ∧ l.length ≤ cap ∧ cap ≤ maxLen ∧ (A = none → cap = 0) ∧
    ∀ i x, l[i]? = some x → ∃ b off, A = some ⟨b, off, none⟩ ∧ S b ∧ ∃ f : Nat → Value, R x f ∧ ∀ j, j < size → w.cell? ⟨b, off + i * size + j, none⟩ = some (f j) ∧ w.frozen? ⟨b, off + i * size + j, none⟩ = false

theorem RdSl.mono {α : Type} {w w' : World} {S S' : Nat → Prop} {size : Nat} {R R' : α → (Nat → Value) → Prop} {l : List α} {v : Value} (h : RdSl w S size R l v) (hw : Keeps S w w') (hS : ∀ b, S b → S' b) (hR : ∀ x ∈ l, ∀ f, R x f → R' x f) : RdSl w' S' size R' l v := by
  obtain ⟨A, cap, h1, h2, h3, h4, h5⟩ := h
  refine ⟨A, cap, h1, h2, h3, h4, fun i x hx => ?_⟩
  obtain ⟨b, off, hA, hb, f, hf, hc⟩ := h5 i x hx
  exact ⟨b, off, hA, hS b hb, f, hR _ (List.mem_of_getElem? hx) _ hf, fun j hj => ⟨(hw _ hb _ _ (hc j hj).1).1, ((hw _ hb _ _ (hc j hj).1).2).trans (hc j hj).2⟩⟩

theorem RdSl.fuel {α : Type} {w : World} {S : Nat → Prop} {size : Nat} {R : Nat → α → (Nat → Value) → Prop} (hR : ∀ n x f, R n x f → R (n + 1) x f) {l : List α} {v : Value} (h : RdSl w S size (fun x f => ∃ n, R n x f) l v) : ∃ n, RdSl w S size (R n) l v := by
  have hup : ∀ m n x f, R n x f → R (n + m) x f := by
    intro m
    induction m with
    | zero => intro n x f h; exact h
    | succ m ih => intro n x f h; exact hR _ _ _ (ih _ _ _ h)
  obtain ⟨A, cap, h1, h2, h3, h4, h5⟩ := h
  have key : ∀ k, ∃ N, ∀ i x, i < k → l[i]? = some x → ∃ b off, A = some ⟨b, off, none⟩ ∧ S b ∧ ∃ f : Nat → Value, R N x f ∧ ∀ j, j < size → w.cell? ⟨b, off + i * size + j, none⟩ = some (f j) ∧ w.frozen? ⟨b, off + i * size + j, none⟩ = false := by
    intro k
    induction k with
    | zero => exact ⟨0, fun i x hi => by omega⟩
    | succ k ih =>
      obtain ⟨N, hN⟩ := ih
      rcases Nat.lt_or_ge k l.length with hk | hk
      · obtain ⟨b, off, hA, hb, f, ⟨n, hf⟩, hc⟩ := h5 k _ (List.getElem?_eq_getElem hk)
        refine ⟨N + n, fun i x hi hx => ?_⟩
        rcases Nat.lt_or_ge i k with hik | hik
        · obtain ⟨b', off', hA', hb', f', hf', hc'⟩ := hN i x hik hx
          exact ⟨b', off', hA', hb', f', hup n _ _ _ hf', hc'⟩
        · obtain rfl : i = k := by omega
          rw [List.getElem?_eq_getElem hk] at hx
          cases hx
          exact ⟨b, off, hA, hb, f, by rw [Nat.add_comm]; exact hup N _ _ _ hf, hc⟩
      · exact ⟨N, fun i x hi hx => hN i x (by have := (List.getElem?_eq_some_iff.1 hx).1; omega) hx⟩
  obtain ⟨N, hN⟩ := key l.length
  exact ⟨N, A, cap, h1, h2, h3, h4, fun i x hx => hN i x (List.getElem?_eq_some_iff.1 hx).1 hx⟩

/-- The slice opened for a walk. -/
theorem RdSl.open_ {α : Type} {w : World} {S : Nat → Prop} {size : Nat} {R : α → (Nat → Value) → Prop} {l : List α} {v : Value} (h : RdSl w S size R l v) :
    ∃ A cap, v = .slice A l.length cap ∧ l.length ≤ cap ∧ cap ≤ 9223372036854775807 ∧
      Hid (∀ w', Keeps S w w' → ∀ i, (hi : i < l.length) → ∃ b off, A = some ⟨b, off, none⟩ ∧ S b ∧ ∃ f : Nat → Value, R l[i] f ∧ ∀ j, j < size → w'.cell? ⟨b, off + i * size + j, none⟩ = some (f j) ∧ w'.frozen? ⟨b, off + i * size + j, none⟩ = false) := by
  obtain ⟨A, cap, h1, h2, h3, h4, h5⟩ := h
  refine ⟨A, cap, h1, h2, by unfold maxLen at h3; omega, fun w' hw i hi => ?_⟩
  obtain ⟨b, off, hA, hb, f, hf, hc⟩ := h5 i _ (List.getElem?_eq_getElem hi)
  exact ⟨b, off, hA, hb, f, hf, fun j hj => ⟨(hw _ hb _ _ (hc j hj).1).1, ((hw _ hb _ _ (hc j hj).1).2).trans (hc j hj).2⟩⟩

/-! ### The trees -/
/-- are two strings the same? -/
def strEq (a b : ByteArray) : Bool := a.toList == b.toList
theorem strEq_iff {a b : ByteArray} : strEq a b = true ↔ a.toList = b.toList := by simp [strEq]
theorem strEq_no {a b : ByteArray} : strEq a b = false ↔ ¬ a.toList = b.toList := by simp [strEq]
theorem toList_inj {a b : ByteArray} (h : a.toList = b.toList) : a = b := by
  rw [ByteArray.toList_eq, ByteArray.toList_eq] at h
  exact ByteArray.ext (Array.ext' h)
theorem strEq_eq {a b : ByteArray} : strEq a b = true ↔ a = b := by
  rw [strEq_iff]; exact ⟨toList_inj, fun h => by rw [h]⟩
theorem strEq_refl (a : ByteArray) : strEq a a = true := strEq_eq.2 rfl
def RdStr (s : ByteArray) (f : Nat → Value) : Prop := f 0 = .string s ∧ s.size ≤ maxLen

inductive Ty where
  | mk (kind : Int) (name : ByteArray) (args : List Ty)
def Ty.kind : Ty → Int | .mk k _ _ => k
def Ty.name : Ty → ByteArray | .mk _ s _ => s
def Ty.args : Ty → List Ty | .mk _ _ l => l
theorem Ty.eta (t : Ty) : t = .mk t.kind t.name t.args := by cases t; rfl

theorem Ty.ind {p : Ty → Prop} (h : ∀ t : Ty, (∀ x ∈ t.args, p x) → p t) : ∀ t, p t := by
  have key : ∀ n (t : Ty), SizeOf.sizeOf t < n → p t := by
    intro n
    induction n with
    | zero => intro t ht; omega
    | succ n ih =>
      intro t ht
      refine h t fun x hx => ih x ?_
      cases t with
      | mk k s l =>
        have := List.sizeOf_lt_of_mem (show x ∈ l from hx)
        simp at ht
        omega
  exact fun t => key _ t (Nat.lt_succ_self _)

def RdTy (w : World) (S : Nat → Prop) : Nat → Ty → (Nat → Value) → Prop
  | 0, _, _ => False
  | n + 1, t, f => f 0 = .int .u8 t.kind ∧ 0 ≤ t.kind ∧ t.kind ≤ 255 ∧ f 1 = .string t.name ∧ t.name.size ≤ maxLen ∧ RdSl w S 3 (RdTy w S n) t.args (f 2)
def TyIn (w : World) (S : Nat → Prop) (t : Ty) (f : Nat → Value) : Prop := ∃ n, RdTy w S n t f

theorem RdTy.up {w : World} {S : Nat → Prop} : ∀ (n : Nat) (t : Ty) (f : Nat → Value), RdTy w S n t f → RdTy w S (n + 1) t f
  | 0, _, _, h => h.elim
  | n + 1, t, f, ⟨h0, h1, h2, h3, h4, h5⟩ => ⟨h0, h1, h2, h3, h4, h5.mono (Keeps.refl _ _) (fun _ h => h) (fun x _ f h => RdTy.up n x f h)⟩
theorem RdTy.mono {w w' : World} {S S' : Nat → Prop} (hw : Keeps S w w') (hS : ∀ b, S b → S' b) : ∀ (n : Nat) (t : Ty) (f : Nat → Value), RdTy w S n t f → RdTy w' S' n t f
  | 0, _, _, h => h.elim
  | n + 1, t, f, ⟨h0, h1, h2, h3, h4, h5⟩ => ⟨h0, h1, h2, h3, h4, h5.mono hw hS (fun x _ f h => RdTy.mono hw hS n x f h)⟩
theorem TyIn.mono {w w' : World} {S S' : Nat → Prop} {t : Ty} {f : Nat → Value} (h : TyIn w S t f) (hw : Keeps S w w') (hS : ∀ b, S b → S' b) : TyIn w' S' t f := h.imp fun n h => RdTy.mono hw hS n t f h
theorem TyIn.iff {w : World} {S : Nat → Prop} {t : Ty} {f : Nat → Value} : TyIn w S t f ↔ f 0 = .int .u8 t.kind ∧ 0 ≤ t.kind ∧ t.kind ≤ 255 ∧ f 1 = .string t.name ∧ t.name.size ≤ maxLen ∧ RdSl w S 3 (TyIn w S) t.args (f 2) := by
  constructor
  · rintro ⟨n, h⟩
    cases n with
    | zero => exact h.elim
    | succ n =>
      obtain ⟨h0, h1, h2, h3, h4, h5⟩ := h
      exact ⟨h0, h1, h2, h3, h4, h5.mono (Keeps.refl _ _) (fun _ h => h) fun x _ f h => ⟨n, h⟩⟩
  · rintro ⟨h0, h1, h2, h3, h4, h5⟩
    obtain ⟨n, hn⟩ := RdSl.fuel RdTy.up h5
    exact ⟨n + 1, h0, h1, h2, h3, h4, hn⟩

theorem TyIn.one {w : World} {S : Nat → Prop} {t : Ty} {f : Nat → Value} (h : TyIn w S t f) : ∀ j, j < 3 → (f j).oneCell' = true := by
  obtain ⟨h0, _, _, h1, _, A, cap, h2, _⟩ := TyIn.iff.1 h
  intro j hj
  match j, hj with
  | 0, _ => rw [h0]; rfl
  | 1, _ => rw [h1]; rfl
  | 2, _ => rw [h2]; rfl

structure Pl where
  name : ByteArray
  path : List ByteArray
def PlIn (w : World) (S : Nat → Prop) (p : Pl) (f : Nat → Value) : Prop := f 0 = .string p.name ∧ p.name.size ≤ maxLen ∧ RdSl w S 1 RdStr p.path (f 1)
theorem PlIn.mono {w w' : World} {S S' : Nat → Prop} {t : Pl} {f : Nat → Value} (h : PlIn w S t f) (hw : Keeps S w w') (hS : ∀ b, S b → S' b) : PlIn w' S' t f :=
  ⟨h.1, h.2.1, h.2.2.mono hw hS fun _ _ _ h => h⟩

def i64 (n : Int) : Prop := -9223372036854775808 ≤ n ∧ n ≤ 9223372036854775807

inductive Ex where
  | mk (op int : Int) (name second : ByteArray) (place : Pl) (args : List Ex) (pos : Int)
def Ex.op : Ex → Int | .mk a _ _ _ _ _ _ => a
def Ex.int : Ex → Int | .mk _ a _ _ _ _ _ => a
def Ex.name : Ex → ByteArray | .mk _ _ a _ _ _ _ => a
def Ex.second : Ex → ByteArray | .mk _ _ _ a _ _ _ => a
def Ex.place : Ex → Pl | .mk _ _ _ _ a _ _ => a
def Ex.args : Ex → List Ex | .mk _ _ _ _ _ a _ => a
def Ex.pos : Ex → Int | .mk _ _ _ _ _ _ a => a
theorem Ex.ind {p : Ex → Prop} (h : ∀ t : Ex, (∀ x ∈ t.args, p x) → p t) : ∀ t, p t := by
  have key : ∀ n (t : Ex), SizeOf.sizeOf t < n → p t := by
    intro n
    induction n with
    | zero => intro t ht; omega
    | succ n ih =>
      intro t ht
      refine h t fun x hx => ih x ?_
      cases t with
      | mk a b c d e l g =>
        have := List.sizeOf_lt_of_mem (show x ∈ l from hx)
        simp at ht
        omega
  exact fun t => key _ t (Nat.lt_succ_self _)

/-- the cells of an expression, but for its arguments -/
def ExHead (w : World) (S : Nat → Prop) (e : Ex) (f : Nat → Value) : Prop :=
  f 0 = .int .u8 e.op ∧ (0 ≤ e.op ∧ e.op ≤ 255) ∧ f 1 = .int .i64 e.int ∧ i64 e.int ∧ f 2 = .string e.name ∧ e.name.size ≤ maxLen ∧ f 3 = .string e.second ∧ e.second.size ≤ maxLen ∧
    PlIn w S e.place (fun j => f (4 + j)) ∧ f 7 = .int .i64 e.pos ∧ i64 e.pos
def RdEx (w : World) (S : Nat → Prop) : Nat → Ex → (Nat → Value) → Prop
  | 0, _, _ => False
  | n + 1, e, f => ExHead w S e f ∧ RdSl w S 8 (RdEx w S n) e.args (f 6)
def ExIn (w : World) (S : Nat → Prop) (t : Ex) (f : Nat → Value) : Prop := ∃ n, RdEx w S n t f
theorem ExHead.mono {w w' : World} {S S' : Nat → Prop} {t : Ex} {f : Nat → Value} (h : ExHead w S t f) (hw : Keeps S w w') (hS : ∀ b, S b → S' b) : ExHead w' S' t f := by
  obtain ⟨a, b, c, d, e, g, h, i, j, k, l⟩ := h
  exact ⟨a, b, c, d, e, g, h, i, j.mono hw hS, k, l⟩
theorem RdEx.up {w : World} {S : Nat → Prop} : ∀ (n : Nat) (t : Ex) (f : Nat → Value), RdEx w S n t f → RdEx w S (n + 1) t f
  | 0, _, _, h => h.elim
  | n + 1, t, f, ⟨h0, h5⟩ => ⟨h0, h5.mono (Keeps.refl _ _) (fun _ h => h) (fun x _ f h => RdEx.up n x f h)⟩
theorem RdEx.mono {w w' : World} {S S' : Nat → Prop} (hw : Keeps S w w') (hS : ∀ b, S b → S' b) : ∀ (n : Nat) (t : Ex) (f : Nat → Value), RdEx w S n t f → RdEx w' S' n t f
  | 0, _, _, h => h.elim
  | n + 1, t, f, ⟨h0, h5⟩ => ⟨h0.mono hw hS, h5.mono hw hS (fun x _ f h => RdEx.mono hw hS n x f h)⟩
theorem ExIn.mono {w w' : World} {S S' : Nat → Prop} {t : Ex} {f : Nat → Value} (h : ExIn w S t f) (hw : Keeps S w w') (hS : ∀ b, S b → S' b) : ExIn w' S' t f := h.imp fun n h => RdEx.mono hw hS n t f h
theorem ExIn.iff {w : World} {S : Nat → Prop} {t : Ex} {f : Nat → Value} : ExIn w S t f ↔ ExHead w S t f ∧ RdSl w S 8 (ExIn w S) t.args (f 6) := by
  constructor
  · rintro ⟨n, h⟩
    cases n with
    | zero => exact h.elim
    | succ n =>
      obtain ⟨h0, h5⟩ := h
      exact ⟨h0, h5.mono (Keeps.refl _ _) (fun _ h => h) fun x _ f h => ⟨n, h⟩⟩
  · rintro ⟨h0, h5⟩
    obtain ⟨n, hn⟩ := RdSl.fuel RdEx.up h5
    exact ⟨n + 1, h0, hn⟩

structure ArOf (α : Type) where
  variant : ByteArray
  name : ByteArray
  body : List α
inductive St where
  | mk (op : Int) (name second : ByteArray) (names : List ByteArray) (type : Ty) (int : Int) (place : Pl) (exprs : List Ex) (body els : List St) (arms : List (ArOf St)) (pos : Int)
abbrev Ar := ArOf St
def St.op : St → Int | .mk a _ _ _ _ _ _ _ _ _ _ _ => a
def St.name : St → ByteArray | .mk _ a _ _ _ _ _ _ _ _ _ _ => a
def St.second : St → ByteArray | .mk _ _ a _ _ _ _ _ _ _ _ _ => a
def St.names : St → List ByteArray | .mk _ _ _ a _ _ _ _ _ _ _ _ => a
def St.type : St → Ty | .mk _ _ _ _ a _ _ _ _ _ _ _ => a
def St.int : St → Int | .mk _ _ _ _ _ a _ _ _ _ _ _ => a
def St.place : St → Pl | .mk _ _ _ _ _ _ a _ _ _ _ _ => a
def St.exprs : St → List Ex | .mk _ _ _ _ _ _ _ a _ _ _ _ => a
def St.body : St → List St | .mk _ _ _ _ _ _ _ _ a _ _ _ => a
def St.els : St → List St | .mk _ _ _ _ _ _ _ _ _ a _ _ => a
def St.arms : St → List Ar | .mk _ _ _ _ _ _ _ _ _ _ a _ => a
def St.pos : St → Int | .mk _ _ _ _ _ _ _ _ _ _ _ a => a
theorem St.ind {p : St → Prop} (h : ∀ t : St, (∀ x ∈ t.body, p x) → (∀ x ∈ t.els, p x) → (∀ a ∈ t.arms, ∀ x ∈ a.body, p x) → p t) : ∀ t, p t := by
  have key : ∀ n (t : St), SizeOf.sizeOf t < n → p t := by
    intro n
    induction n with
    | zero => intro t ht; omega
    | succ n ih =>
      intro t ht
      cases t with
      | mk a b c d e f g l1 l2 l3 l4 i =>
        refine h _ (fun x hx => ih x ?_) (fun x hx => ih x ?_) (fun q hq x hx => ih x ?_)
        · have := List.sizeOf_lt_of_mem (show x ∈ l2 from hx)
          simp at ht
          omega
        · have := List.sizeOf_lt_of_mem (show x ∈ l3 from hx)
          simp at ht
          omega
        · have h1 := List.sizeOf_lt_of_mem (show q ∈ l4 from hq)
          have h2 := List.sizeOf_lt_of_mem hx
          simp at ht
          have h3 : SizeOf.sizeOf q.body < SizeOf.sizeOf q := by cases q; simp; omega
          omega
  exact fun t => key _ t (Nat.lt_succ_self _)

/-- the cells of a statement, but for the statements in it -/
def StHead (w : World) (S : Nat → Prop) (s : St) (f : Nat → Value) : Prop :=
  f 0 = .int .u8 s.op ∧ (0 ≤ s.op ∧ s.op ≤ 255) ∧ f 1 = .string s.name ∧ s.name.size ≤ maxLen ∧ f 2 = .string s.second ∧ s.second.size ≤ maxLen ∧ RdSl w S 1 RdStr s.names (f 3) ∧
    TyIn w S s.type (fun j => f (4 + j)) ∧ f 7 = .int .i64 s.int ∧ i64 s.int ∧ PlIn w S s.place (fun j => f (8 + j)) ∧ RdSl w S 8 (ExIn w S) s.exprs (f 10) ∧ f 14 = .int .i64 s.pos ∧ i64 s.pos
def ArHead (a : Ar) (f : Nat → Value) : Prop := f 0 = .string a.variant ∧ a.variant.size ≤ maxLen ∧ f 1 = .string a.name ∧ a.name.size ≤ maxLen
def RdSt (w : World) (S : Nat → Prop) : Nat → St → (Nat → Value) → Prop
  | 0, _, _ => False
  | n + 1, s, f => StHead w S s f ∧ RdSl w S 15 (RdSt w S n) s.body (f 11) ∧ RdSl w S 15 (RdSt w S n) s.els (f 12) ∧ RdSl w S 3 (fun a g => ArHead a g ∧ RdSl w S 15 (RdSt w S n) a.body (g 2)) s.arms (f 13)
def StIn (w : World) (S : Nat → Prop) (t : St) (f : Nat → Value) : Prop := ∃ n, RdSt w S n t f
def ArIn (w : World) (S : Nat → Prop) (a : Ar) (g : Nat → Value) : Prop := ArHead a g ∧ RdSl w S 15 (StIn w S) a.body (g 2)
theorem StHead.mono {w w' : World} {S S' : Nat → Prop} {t : St} {f : Nat → Value} (h : StHead w S t f) (hw : Keeps S w w') (hS : ∀ b, S b → S' b) : StHead w' S' t f := by
  obtain ⟨a, b, c, d, e, g, h, i, j, k, l, m, n, o⟩ := h
  exact ⟨a, b, c, d, e, g, h.mono hw hS fun _ _ _ h => h, i.mono hw hS, j, k, l.mono hw hS, m.mono hw hS fun _ _ _ h => h.mono hw hS, n, o⟩
theorem RdSt.up {w : World} {S : Nat → Prop} : ∀ (n : Nat) (t : St) (f : Nat → Value), RdSt w S n t f → RdSt w S (n + 1) t f
  | 0, _, _, h => h.elim
  | n + 1, t, f, ⟨h0, h1, h2, h3⟩ => ⟨h0, h1.mono (Keeps.refl _ _) (fun _ h => h) (fun x _ f h => RdSt.up n x f h), h2.mono (Keeps.refl _ _) (fun _ h => h) (fun x _ f h => RdSt.up n x f h),
      h3.mono (Keeps.refl _ _) (fun _ h => h) fun a _ g h => ⟨h.1, h.2.mono (Keeps.refl _ _) (fun _ h => h) (fun x _ f h => RdSt.up n x f h)⟩⟩
theorem RdSt.mono {w w' : World} {S S' : Nat → Prop} (hw : Keeps S w w') (hS : ∀ b, S b → S' b) : ∀ (n : Nat) (t : St) (f : Nat → Value), RdSt w S n t f → RdSt w' S' n t f
  | 0, _, _, h => h.elim
  | n + 1, t, f, ⟨h0, h1, h2, h3⟩ => ⟨h0.mono hw hS, h1.mono hw hS (fun x _ f h => RdSt.mono hw hS n x f h), h2.mono hw hS (fun x _ f h => RdSt.mono hw hS n x f h),
      h3.mono hw hS fun a _ g h => ⟨h.1, h.2.mono hw hS (fun x _ f h => RdSt.mono hw hS n x f h)⟩⟩
theorem StIn.mono {w w' : World} {S S' : Nat → Prop} {t : St} {f : Nat → Value} (h : StIn w S t f) (hw : Keeps S w w') (hS : ∀ b, S b → S' b) : StIn w' S' t f := h.imp fun n h => RdSt.mono hw hS n t f h
theorem ArIn.mono {w w' : World} {S S' : Nat → Prop} {t : Ar} {f : Nat → Value} (h : ArIn w S t f) (hw : Keeps S w w') (hS : ∀ b, S b → S' b) : ArIn w' S' t f := ⟨h.1, h.2.mono hw hS fun _ _ _ h => h.mono hw hS⟩
theorem RdSt.ups {w : World} {S : Nat → Prop} {n : Nat} {t : St} {f : Nat → Value} (h : RdSt w S n t f) : ∀ m, RdSt w S (n + m) t f
  | 0 => h
  | m + 1 => RdSt.up _ _ _ (RdSt.ups h m)
theorem StIn.iff {w : World} {S : Nat → Prop} {t : St} {f : Nat → Value} : StIn w S t f ↔ StHead w S t f ∧ RdSl w S 15 (StIn w S) t.body (f 11) ∧ RdSl w S 15 (StIn w S) t.els (f 12) ∧ RdSl w S 3 (ArIn w S) t.arms (f 13) := by
  constructor
  · rintro ⟨n, h⟩
    cases n with
    | zero => exact h.elim
    | succ n =>
      obtain ⟨h0, h1, h2, h3⟩ := h
      exact ⟨h0, h1.mono (Keeps.refl _ _) (fun _ h => h) fun x _ f h => ⟨n, h⟩, h2.mono (Keeps.refl _ _) (fun _ h => h) fun x _ f h => ⟨n, h⟩,
        h3.mono (Keeps.refl _ _) (fun _ h => h) fun a _ g h => ⟨h.1, h.2.mono (Keeps.refl _ _) (fun _ h => h) fun x _ f h => ⟨n, h⟩⟩⟩
  · rintro ⟨h0, h1, h2, h3⟩
    obtain ⟨n1, g1⟩ := RdSl.fuel RdSt.up h1
    obtain ⟨n2, g2⟩ := RdSl.fuel RdSt.up h2
    have h3' : RdSl w S 3 (fun a g => ∃ n, ArHead a g ∧ RdSl w S 15 (RdSt w S n) a.body (g 2)) t.arms (f 13) := h3.mono (Keeps.refl _ _) (fun _ h => h) fun a _ g h => by
      obtain ⟨n, hn⟩ := RdSl.fuel RdSt.up h.2
      exact ⟨n, h.1, hn⟩
    obtain ⟨n3, g3⟩ := RdSl.fuel (R := fun n a g => ArHead a g ∧ RdSl w S 15 (RdSt w S n) a.body (g 2)) (fun n a g h => ⟨h.1, h.2.mono (Keeps.refl _ _) (fun _ h => h) fun x _ f h => RdSt.up n x f h⟩) h3'
    refine ⟨n1 + n2 + n3 + 1, h0, g1.mono (Keeps.refl _ _) (fun _ h => h) fun x _ f h => ?_, g2.mono (Keeps.refl _ _) (fun _ h => h) fun x _ f h => ?_, g3.mono (Keeps.refl _ _) (fun _ h => h) fun a _ g h => ⟨h.1, h.2.mono (Keeps.refl _ _) (fun _ h => h) fun x _ f h => ?_⟩⟩
    · exact (show n1 + (n2 + n3) = n1 + n2 + n3 by omega) ▸ h.ups (n2 + n3)
    · exact (show n2 + (n1 + n3) = n1 + n2 + n3 by omega) ▸ h.ups (n1 + n3)
    · exact (show n3 + (n1 + n2) = n1 + n2 + n3 by omega) ▸ h.ups (n1 + n2)

structure Fi where
  name : ByteArray
  type : Ty
def FiIn (w : World) (S : Nat → Prop) (x : Fi) (f : Nat → Value) : Prop := f 0 = .string x.name ∧ x.name.size ≤ maxLen ∧ TyIn w S x.type (fun j => f (1 + j))
theorem FiIn.mono {w w' : World} {S S' : Nat → Prop} {t : Fi} {f : Nat → Value} (h : FiIn w S t f) (hw : Keeps S w w') (hS : ∀ b, S b → S' b) : FiIn w' S' t f := ⟨h.1, h.2.1, h.2.2.mono hw hS⟩

structure It where
  kind : Int
  name : ByteArray
  fields : List Fi
  result : Ty
  body : List St
  ret : Ex
  pos : Int
def ItIn (w : World) (S : Nat → Prop) (x : It) (f : Nat → Value) : Prop :=
  f 0 = .int .u8 x.kind ∧ (0 ≤ x.kind ∧ x.kind ≤ 255) ∧ f 1 = .string x.name ∧ x.name.size ≤ maxLen ∧ RdSl w S 4 (FiIn w S) x.fields (f 2) ∧ TyIn w S x.result (fun j => f (3 + j)) ∧
    RdSl w S 15 (StIn w S) x.body (f 6) ∧ ExIn w S x.ret (fun j => f (7 + j)) ∧ f 15 = .int .i64 x.pos ∧ i64 x.pos
theorem ItIn.mono {w w' : World} {S S' : Nat → Prop} {t : It} {f : Nat → Value} (h : ItIn w S t f) (hw : Keeps S w w') (hS : ∀ b, S b → S' b) : ItIn w' S' t f := by
  obtain ⟨a, b, c, d, e, g, h, i, j, k⟩ := h
  exact ⟨a, b, c, d, e.mono hw hS fun _ _ _ h => h.mono hw hS, g.mono hw hS, h.mono hw hS fun _ _ _ h => h.mono hw hS, i.mono hw hS, j, k⟩

/-- a program: its items -/
def PrIn (w : World) (S : Nat → Prop) (p : List It) (v : Value) : Prop := RdSl w S 16 (ItIn w S) p v
theorem PrIn.mono {w w' : World} {S S' : Nat → Prop} {p : List It} {v : Value} (h : PrIn w S p v) (hw : Keeps S w w') (hS : ∀ b, S b → S' b) : PrIn w' S' p v := RdSl.mono h hw hS fun _ _ _ h => h.mono hw hS

theorem RdSl.one {α : Type} {w : World} {S : Nat → Prop} {size : Nat} {R : α → (Nat → Value) → Prop} {l : List α} {v : Value} (h : RdSl w S size R l v) : v.oneCell' = true := by
  obtain ⟨A, cap, rfl, _⟩ := h; rfl
theorem PlIn.one {w : World} {S : Nat → Prop} {t : Pl} {f : Nat → Value} (h : PlIn w S t f) : ∀ j, j < 2 → (f j).oneCell' = true := by
  obtain ⟨h0, _, h2⟩ := h
  intro j hj
  match j, hj with
  | 0, _ => rw [h0]; rfl
  | 1, _ => exact h2.one
theorem ExIn.one {w : World} {S : Nat → Prop} {t : Ex} {f : Nat → Value} (h : ExIn w S t f) : ∀ j, j < 8 → (f j).oneCell' = true := by
  obtain ⟨⟨h0, _, h1, _, h2, _, h3, _, h4, h7, _⟩, h6⟩ := ExIn.iff.1 h
  intro j hj
  match j, hj with
  | 0, _ => rw [h0]; rfl
  | 1, _ => rw [h1]; rfl
  | 2, _ => rw [h2]; rfl
  | 3, _ => rw [h3]; rfl
  | 4, _ => exact h4.one 0 (by omega)
  | 5, _ => exact h4.one 1 (by omega)
  | 6, _ => exact h6.one
  | 7, _ => rw [h7]; rfl
theorem StIn.one {w : World} {S : Nat → Prop} {t : St} {f : Nat → Value} (h : StIn w S t f) : ∀ j, j < 15 → (f j).oneCell' = true := by
  obtain ⟨⟨h0, _, h1, _, h2, _, h3, h4, h7, _, h8, h10, h14, _⟩, h11, h12, h13⟩ := StIn.iff.1 h
  intro j hj
  match j, hj with
  | 0, _ => rw [h0]; rfl
  | 1, _ => rw [h1]; rfl
  | 2, _ => rw [h2]; rfl
  | 3, _ => exact h3.one
  | 4, _ => exact h4.one 0 (by omega)
  | 5, _ => exact h4.one 1 (by omega)
  | 6, _ => exact h4.one 2 (by omega)
  | 7, _ => rw [h7]; rfl
  | 8, _ => exact h8.one 0 (by omega)
  | 9, _ => exact h8.one 1 (by omega)
  | 10, _ => exact h10.one
  | 11, _ => exact h11.one
  | 12, _ => exact h12.one
  | 13, _ => exact h13.one
  | 14, _ => rw [h14]; rfl
theorem ArIn.one {w : World} {S : Nat → Prop} {t : Ar} {f : Nat → Value} (h : ArIn w S t f) : ∀ j, j < 3 → (f j).oneCell' = true := by
  obtain ⟨⟨h0, _, h1, _⟩, h2⟩ := h
  intro j hj
  match j, hj with
  | 0, _ => rw [h0]; rfl
  | 1, _ => rw [h1]; rfl
  | 2, _ => exact h2.one
theorem FiIn.one {w : World} {S : Nat → Prop} {t : Fi} {f : Nat → Value} (h : FiIn w S t f) : ∀ j, j < 4 → (f j).oneCell' = true := by
  obtain ⟨h0, _, h2⟩ := h
  intro j hj
  match j, hj with
  | 0, _ => rw [h0]; rfl
  | 1, _ => exact h2.one 0 (by omega)
  | 2, _ => exact h2.one 1 (by omega)
  | 3, _ => exact h2.one 2 (by omega)
theorem ItIn.one {w : World} {S : Nat → Prop} {t : It} {f : Nat → Value} (h : ItIn w S t f) : ∀ j, j < 16 → (f j).oneCell' = true := by
  obtain ⟨h0, _, h1, _, h2, h3, h6, h7, h15, _⟩ := h
  intro j hj
  match j, hj with
  | 0, _ => rw [h0]; rfl
  | 1, _ => rw [h1]; rfl
  | 2, _ => exact h2.one
  | 3, _ => exact h3.one 0 (by omega)
  | 4, _ => exact h3.one 1 (by omega)
  | 5, _ => exact h3.one 2 (by omega)
  | 6, _ => exact h6.one
  | 7, _ => exact h7.one 0 (by omega)
  | 8, _ => exact h7.one 1 (by omega)
  | 9, _ => exact h7.one 2 (by omega)
  | 10, _ => exact h7.one 3 (by omega)
  | 11, _ => exact h7.one 4 (by omega)
  | 12, _ => exact h7.one 5 (by omega)
  | 13, _ => exact h7.one 6 (by omega)
  | 14, _ => exact h7.one 7 (by omega)
  | 15, _ => rw [h15]; rfl
  | k + 16, h => exact absurd h (by omega)

/-! ### Small lemmas on lists -/
theorem all_false {α : Type} {p : α → Bool} {l : List α} {i : Nat} (h : i < l.length) (hx : p l[i] = false) : l.all p = false := by
  rw [List.all_eq_false]; exact ⟨l[i], List.getElem_mem h, by simp [hx]⟩
theorem all_true {α : Type} {p : α → Bool} {l : List α} (h : ∀ i, (hi : i < l.length) → p l[i] = true) : l.all p = true := by
  rw [List.all_eq_true]
  intro x hx
  obtain ⟨i, hi, rfl⟩ := List.getElem_of_mem hx
  exact h i hi
/-- something holds of all elements ahead of place q -/
def AllTo {α : Type} (p : α → Prop) (l : List α) (q : Nat) : Prop := ∀ i, (hi : i < l.length) → i < q → p l[i]
theorem AllTo.zero {α : Type} (p : α → Prop) (l : List α) : AllTo p l 0 := fun i _ h => by omega
theorem AllTo.succ {α : Type} {p : α → Prop} {l : List α} {q : Nat} (h : AllTo p l q) (hq : q < l.length) (hp : p l[q]) : AllTo p l (q + 1) := fun i hi hlt => by
  rcases Nat.lt_or_ge i q with h1 | h1
  · exact h i hi h1
  · obtain rfl : i = q := by omega
    exact hp
theorem AllTo.all {α : Type} {p : α → Bool} {l : List α} {q : Nat} (h : AllTo (fun x => p x = true) l q) (hq : l.length ≤ q) : l.all p = true := all_true fun i hi => h i hi (by omega)
end Go.Proofs.Ytkgpkbclfncnfaa
