/- Does a struct, an enum have itself: in the logic over abstract values. No statement is proved here. -/
import Derived.Test.YtnblhbpfgdjnkaaGreatDoorTTa
import Derived.Test.YtnblhbpfgdjnkaaGreatDoorTPr
import Derived.Test.YtnblhbpfgdjnkaaGreatDoorTLx
import Derived.Test.YtnblhbpfgdjnkaaGreatDoorTLr
namespace Go.Proofs.YtnblhbpfgdjnkaaGreatDoor
open Go.RowKit
attribute [local simp] List.replicate List.range List.range.loop resA resOne retA AV.cuts AV.cut AObj.cut trim wkR wkT wkL wkN wkNR wkNL wkM wkMR wkML
set_option linter.unusedVariables false
set_option linter.unusedSimpArgs false

/-- an item's zero value -/
abbrev itZ0 : AV := .agg [U 0, Sg emS, nilS, U 0, Sg emS, nilS, nilS, U 0, I 0, Sg emS, Sg emS, Sg emS, nilS, nilS, I 0, I 0]
theorem idx_find {α : Type} (p : α → Bool) (l : List α) : (l.find? p = none ∧ idxI p l = -1) ∨ ∃ q, ∃ h : q < l.length, l.find? p = some l[q] ∧ idxI p l = q := by
  unfold idxI
  cases h : l.findIdx? p with
  | none =>
    rw [List.findIdx?_eq_none_iff] at h
    refine .inl ⟨?_, rfl⟩
    rw [List.find?_eq_none]
    intro x hx
    simp [h x hx]
  | some q =>
    rw [List.findIdx?_eq_some_iff_getElem] at h
    obtain ⟨hq, hp, hn⟩ := h
    refine .inr ⟨q, hq, ?_, rfl⟩
    rw [List.find?_eq_some_iff_getElem]
    exact ⟨hp, q, hq, rfl, fun j hj => by simpa using hn j hj⟩
def firstR (p : List It) (nm : ByteArray) : AV := match firstIt p nm with | some x => .tup [itV x, B true] | none => .tup [itZ0, B false]
set_option maxRecDepth 100000 in
set_option maxHeartbeats 2000000 in
theorem firstC (p : List It) (nm : ByteArray) (S : ASt) : ADet Tryz.prog 77 [.agg [.p (prog p)], Sg nm] S (firstR p nm) S := by
  refine ADet.okA Tryz.call77 0 0 rfl rfl fun hok => ?_
  have hlen := okl hok
  have iC : ∀ L : List AObj, get2 (L :: S) 0 1 = some (.cells [Sg nm] 9) → ADet Tryz.prog 122 [.p (.sl 16 (p.map It.enc)), .fn (.func 123) [] [.ptr 0 1 0]] (L :: S) (I (idxI (fun x : It => (decide (x.kind ≠ 3)) && sEq x.name nm) p)) (L :: S) := fun L hL =>
    idx_Item _ _ _ _ _ fun x hx M => by
      have hg : get2 (M :: L :: S) 1 1 = some (.cells [Sg nm] 9) := hL
      refine ADet.intro mixed Tryz.call123 Tryz.func123 rfl ?_
      by_cases h3 : x.kind = 3
      · simp [Tryz.ntmps123, h3]
      · have h3' : (x.kind != 3) = true := by simpa using h3
        simp only [get2_cons] at hg
        simp [Tryz.ntmps123, h3', h3, hL]
  refine ADet.intro mixed Tryz.call77 Tryz.func77 rfl ?_
  simp [Tryz.ntmps77, prog]
  refine ⟨_, _, iC _ rfl, ?_⟩
  unfold firstR firstIt
  rcases idx_find (fun x : It => (decide (x.kind ≠ 3)) && sEq x.name nm) p with ⟨h1, h2⟩ | ⟨q, hq, h1, h2⟩
  · rw [h1, h2]
    simp
  · rw [h1, h2]
    have hq' : (q : Int) < (p.length : Int) := by omega
    have hq2 : ¬ (q : Int) < 0 := by omega
    simp [hq, hq', hq2, It.enc]
/-- what has been gone through -/
def goneM (g : List ByteArray) : AObj := .map (g.map fun s => (.string s, I 1))
structure FdAt (p : List It) (x : It) (S : ASt) (d : Nat) (g : List ByteArray) : Prop where
  o0 : get2 S d 0 = some (.cells [.p (prog p)] 24)
  o1 : get2 S d 1 = some (.cells (itU x) 54)
  o2 : get2 S d 2 = some (goneM g)
  o3 : get2 S d 3 = some (.cells [.mp 0 2] 121)
  o4 : get2 S d 4 = some (.cells [.fn (.func 76) [] [.ptr 0 1 0, .ptr 0 3 0, .ptr 0 0 0, .ptr 0 4 0]] 115)
theorem FdAt.push {p : List It} {x : It} {S : ASt} {d : Nat} {g : List ByteArray} (h : FdAt p x S d g) (L : List AObj) : FdAt p x (L :: S) (d + 1) g := ⟨h.o0, h.o1, h.o2, h.o3, h.o4⟩
theorem FdAt.upd {p : List It} {x : It} {S : ASt} {d : Nat} {g : List ByteArray} (h : FdAt p x S d g) (g' : List ByteArray) : FdAt p x (set2 S d 2 (goneM g')) d g' := by
  refine ⟨?_, ?_, ?_, ?_, ?_⟩
  · rw [get2_set _ h.o2, if_neg (by simp)]; exact h.o0
  · rw [get2_set _ h.o2, if_neg (by simp)]; exact h.o1
  · rw [get2_set _ h.o2, if_pos ⟨rfl, rfl⟩]
  · rw [get2_set _ h.o2, if_neg (by simp)]; exact h.o3
  · rw [get2_set _ h.o2, if_neg (by simp)]; exact h.o4
theorem FdAt.same {p : List It} {x : It} {S : ASt} {d : Nat} {g : List ByteArray} (h : FdAt p x S d g) : set2 S d 2 (goneM g) = S := set2_same h.o2
def FdC (p : List It) (x : It) (y : It) (g : List ByteArray) (b : Bool) (g' : List ByteArray) : Prop := ∀ (S : ASt) (d : Nat), FdAt p x S d g → ADet Tryz.prog 76 [itV y, .ptr d 1 0, .ptr d 3 0, .ptr d 0 0, .ptr d 4 0] S (B b) (set2 S d 2 (goneM g'))
theorem FdC.at {p : List It} {x y : It} {g g1 g2 : List ByteArray} {b : Bool} (hw : FdC p x y g1 b g2) {S : ASt} {d : Nat} (h : FdAt p x S d g) (L : List AObj) :
    ADet Tryz.prog 76 [itV y, .ptr (d + 1) 1 0, .ptr (d + 1) 3 0, .ptr (d + 1) 0 0, .ptr (d + 1) 4 0] (L :: set2 S d 2 (goneM g1)) (B b) (L :: set2 S d 2 (goneM g2)) := by
  have := hw _ _ ((h.upd g1).push L)
  rw [set2_suc, set2_set2] at this
  exact this
end Go.Proofs.YtnblhbpfgdjnkaaGreatDoor
