/- tree.all: does something hold of each thing of a list, and is it not too long? -/
import Derived.Test.YtkgpkbclfncnfaaDoorRows
import Derived.Test.YtkgpkbclfncnfaaDoorBase
import Derived.Handy
namespace Go.Proofs.YtkgpkbclfncnfaaDoor
open Go.RowKit
set_option linter.unusedVariables false

/-- something holds of all, and they are at most m -/
def allUp {α : Type} (p : α → Bool) (l : List α) (m : Nat) : Bool := decide (l.length ≤ m) && (l.take m).all p
theorem allUp_no {α : Type} {p : α → Bool} {l : List α} {m q : Nat} (hq : q < l.length) (hm : q < m) (h : p l[q] = false) : allUp p l m = false := by
  have : (l.take m).all p = false := all_false (i := q) (by rw [List.length_take]; omega) (by rw [List.getElem_take]; exact h)
  simp [allUp, this]
theorem allUp_end {α : Type} {p : α → Bool} {l : List α} {m q : Nat} (h : AllTo (fun x => p x = true) l q) (hq : l.length ≤ q ∨ m ≤ q) : allUp p l m = decide (l.length ≤ m) := by
  have : (l.take m).all p = true := all_true fun i hi => by
    rw [List.length_take] at hi
    rw [List.getElem_take]
    exact h i (by omega) (by omega)
  simp [allUp, this]
theorem allUp_all {α : Type} {p : α → Bool} {l : List α} {m : Nat} (h : l.length ≤ m) : allUp p l m = l.all p := by
  rw [allUp, List.take_of_length_le h]; simp [h]

set_option maxRecDepth 100000 in
set_option maxHeartbeats 1000000 in
theorem all_Type {α : Type} (R : α → (Nat → Value) → Prop) (p : α → Bool) (K : FuncId) (l : List α) (m : Nat) (hm : m ≤ 1000000000000) (S : Nat → Prop) (v : Value) (w : World) (hs : RdSl w S 3 R l v)
    (C : Array Value) (hK : ∀ args w, (callFunc K args).run Tryd.prog w = .ok (.enter K args) w)
    (hp : ∀ i, (hi : i < l.length) → i < m → ∀ w1 g, Below w.heap.size w w1 → R l[i] g → Calls Tryd.prog K (#[.agg #[g 0, g 1, g 2]] ++ C) w1 fun e w' => e = .returned (.bool (p l[i])) ∧ Below w1.heap.size w1 w') :
    Calls Tryd.prog 18 #[v, .int .i64 m, .func (.func K) #[] C] w fun e w' => e = .returned (.bool (allUp p l m)) ∧ Below w.heap.size w w' := by
  obtain ⟨A, cap, rfl, hl, hc, hel⟩ := hs.open_
  have Hp := Lib.hid hp
  clear hp hs
  go_enter Tryd.func18, Tryd.ntmps18
  go_wp2
  go_loopw [7] (fun i wr => ∃ q : Nat, q ≤ l.length ∧ q ≤ m ∧ i = .int .i64 q ∧ AllTo (fun x => p x = true) l q ∧ Below w.heap.size w wr)  (fun i _ => l.length - (intOf i).toNat)
  case atStart => exact ⟨0, Nat.zero_le _, Nat.zero_le _, rfl, AllTo.zero _ _, Below.refl _ _⟩
  case round =>
    obtain ⟨q, hq, hqm, rfl, hall, hb⟩ := hrel
    have hz := hb.size
    by_cases hlt : q < l.length ∧ q < m
    · obtain ⟨hlt, hltm⟩ := hlt
      obtain ⟨b, off, rfl, _, g, hg, hcell⟩ := hel.out wr (Keeps.of_below hb) q hlt
      have d0 : wr.cell? ⟨b, off + q * 3, none⟩ = some (g 0) := (hcell 0 (by omega)).1
      have d1 : wr.cell? ⟨b, off + q * 3 + 1, none⟩ = some (g 1) := (hcell 1 (by omega)).1
      have d2 : wr.cell? ⟨b, off + q * 3 + 2, none⟩ = some (g 2) := (hcell 2 (by omega)).1
      clear hcell
      go_wp2_with fail
      refine (Hp.out q hlt hltm wr g hb hg).mono ?_
      rintro e w1 ⟨rfl, hb1⟩
      go_wp2
      · have hn : p l[q] = false := by first | assumption | simpa using (show (!p l[q]) = true by assumption)
        go_ret
        exact ⟨by rw [allUp_no hlt hltm hn]; rfl, hb.trans (hb1.mono (by omega))⟩
      · have hn : p l[q] = true := by first | assumption | simpa using (show (!p l[q]) = false by assumption)
        exact ⟨⟨q + 1, by omega, by omega, by go_num, hall.succ hlt hn, hb.trans (hb1.mono (by omega))⟩, by simp [intOf]; omega⟩
    · have hend : l.length ≤ q ∨ m ≤ q := by omega
      have hfin := Lib.hid (allUp_end hall hend)
      by_cases hlq : q < l.length
      · have hmq : ¬ q < m := by omega
        clear hlt hend
        go_wp2
        go_ret
        exact ⟨by rw [hfin.out]; first | rfl | (simp; done) | (simp; omega), hb⟩
      · clear hlt hend
        go_wp2
        go_ret
        exact ⟨by rw [hfin.out]; first | rfl | (simp; done) | (simp; omega), hb⟩

end Go.Proofs.YtkgpkbclfncnfaaDoor
