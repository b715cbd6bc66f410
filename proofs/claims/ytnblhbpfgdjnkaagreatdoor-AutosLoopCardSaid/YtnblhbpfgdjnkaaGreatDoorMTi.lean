/- Does a struct, an enum have itself: in the logic over abstract values. No statement is proved here. -/
import Derived.Test.YtnblhbpfgdjnkaaGreatDoorMTa
import Derived.Test.YtnblhbpfgdjnkaaGreatDoorMPr
import Derived.Test.YtnblhbpfgdjnkaaGreatDoorMLx
import Derived.Test.YtnblhbpfgdjnkaaGreatDoorMLr
namespace Go.Proofs.YtnblhbpfgdjnkaaGreatDoor
open Go.RowKit
attribute [local simp] List.replicate List.range List.range.loop resA resOne retA AV.cuts AV.cut AObj.cut trim wkR wkT wkL wkN wkNR wkNL wkM wkMR wkML
set_option linter.unusedVariables false
set_option linter.unusedSimpArgs false

/-- an item's zero value -/
abbrev itZ0 : AV := .agg [U 0, Sg emS, nilS, U 0, Sg emS, nilS, nilS, U 0, I 0, Sg emS, Sg emS, Sg emS, nilS, nilS, I 0, I 0]
theorem idx_find {α : Type} (p : α → Bool) (l : List α) : (l.find? p = none ∧ idxI p l = -1) ∨ ∃ q, ∃ h : q < l.length, l.find? p = some l[q] ∧ idxI p l = q := by
  unfold idxI
  cases h : l.findIdx? p with
  | none =>
    rw [List.findIdx?_eq_none_iff] at h
    refine .inl ⟨?_, rfl⟩
    rw [List.find?_eq_none]
    intro x hx
    simp [h x hx]
  | some q =>
    rw [List.findIdx?_eq_some_iff_getElem] at h
    obtain ⟨hq, hp, hn⟩ := h
    refine .inr ⟨q, hq, ?_, rfl⟩
    rw [List.find?_eq_some_iff_getElem]
    exact ⟨hp, q, hq, rfl, fun j hj => by simpa using hn j hj⟩
def firstR (p : List It) (nm : ByteArray) : AV := match firstIt p nm with | some x => .tup [itV x, B true] | none => .tup [itZ0, B false]
set_option maxRecDepth 100000 in
set_option maxHeartbeats 2000000 in
theorem firstC (p : List It) (nm : ByteArray) (S : ASt) : ADet Tryz.prog 77 [.agg [.p (prog p)], Sg nm] S (firstR p nm) S := by
  refine ADet.okA Tryz.call77 0 0 rfl rfl fun hok => ?_
  have hlen := okl hok
  have iC : ∀ L : List AObj, get2 (L :: S) 0 1 = some (.cells [Sg nm] 9) → ADet Tryz.prog 122 [.p (.sl 16 (p.map It.enc)), .fn (.func 123) [] [.ptr 0 1 0]] (L :: S) (I (idxI (fun x : It => (decide (x.kind ≠ 3)) && sEq x.name nm) p)) (L :: S) := fun L hL =>
    idx_Item _ _ _ _ _ fun x hx M => by
      have hg : get2 (M :: L :: S) 1 1 = some (.cells [Sg nm] 9) := hL
      refine ADet.intro mixed Tryz.call123 Tryz.func123 rfl ?_
      by_cases h3 : x.kind = 3
      · simp [Tryz.ntmps123, h3]
      · have h3' : (x.kind != 3) = true := by simpa using h3
        simp only [get2_cons] at hg
        simp [Tryz.ntmps123, h3', h3, hL]
  refine ADet.intro mixed Tryz.call77 Tryz.func77 rfl ?_
  simp [Tryz.ntmps77, prog]
  refine ⟨_, _, iC _ rfl, ?_⟩
  unfold firstR firstIt
  rcases idx_find (fun x : It => (decide (x.kind ≠ 3)) && sEq x.name nm) p with ⟨h1, h2⟩ | ⟨q, hq, h1, h2⟩
  · rw [h1, h2]
    simp
  · rw [h1, h2]
    have hq' : (q : Int) < (p.length : Int) := by omega
    have hq2 : ¬ (q : Int) < 0 := by omega
    simp [hq, hq', hq2, It.enc]
/-- what has been gone through -/
def goneM (g : List ByteArray) : AObj := .map (g.map fun s => (.string s, I 1))
theorem find_gone (s : ByteArray) : ∀ (l : List ByteArray) (i : Nat), ∃ j, mapFind .string (.string s) (l.map fun s => (.string s, I 1)) i = some (if l.any (fun g => sEq s g) = true then some (j, I 1) else none)
  | [], i => ⟨0, rfl⟩
  | t :: l, i => by
    rw [List.map_cons, mapFind_str, List.any_cons]
    cases sEq s t with
    | true => exact ⟨i, rfl⟩
    | false => exact find_gone s l (i + 1)
structure FdAt (p : List It) (x : It) (S : ASt) (d : Nat) (g : List ByteArray) : Prop where
  o0 : get2 S d 0 = some (.cells [.p (prog p)] 24)
  o1 : get2 S d 1 = some (.cells (itU x) 54)
  o2 : get2 S d 2 = some (goneM g)
  o3 : get2 S d 3 = some (.cells [.mp 0 2] 121)
  o4 : get2 S d 4 = some (.cells [.fn (.func 76) [] [.ptr 0 1 0, .ptr 0 3 0, .ptr 0 0 0, .ptr 0 4 0]] 115)
theorem FdAt.push {p : List It} {x : It} {S : ASt} {d : Nat} {g : List ByteArray} (h : FdAt p x S d g) (L : List AObj) : FdAt p x (L :: S) (d + 1) g := ⟨h.o0, h.o1, h.o2, h.o3, h.o4⟩
theorem FdAt.upd {p : List It} {x : It} {S : ASt} {d : Nat} {g : List ByteArray} (h : FdAt p x S d g) (g' : List ByteArray) : FdAt p x (set2 S d 2 (goneM g')) d g' := by
  refine ⟨?_, ?_, ?_, ?_, ?_⟩
  · rw [get2_set _ h.o2, if_neg (by simp)]; exact h.o0
  · rw [get2_set _ h.o2, if_neg (by simp)]; exact h.o1
  · rw [get2_set _ h.o2, if_pos ⟨rfl, rfl⟩]
  · rw [get2_set _ h.o2, if_neg (by simp)]; exact h.o3
  · rw [get2_set _ h.o2, if_neg (by simp)]; exact h.o4
theorem FdAt.same {p : List It} {x : It} {S : ASt} {d : Nat} {g : List ByteArray} (h : FdAt p x S d g) : set2 S d 2 (goneM g) = S := set2_same h.o2
def FdC (p : List It) (x : It) (y : It) (g : List ByteArray) (b : Bool) (g' : List ByteArray) : Prop := ∀ (S : ASt) (d : Nat), FdAt p x S d g → ADet Tryz.prog 76 [itV y, .ptr d 1 0, .ptr d 3 0, .ptr d 0 0, .ptr d 4 0] S (B b) (set2 S d 2 (goneM g'))
theorem FdC.at {p : List It} {x y : It} {g g1 g2 : List ByteArray} {b : Bool} (hw : FdC p x y g1 b g2) {S : ASt} {d : Nat} (h : FdAt p x S d g) (L : List AObj) :
    ADet Tryz.prog 76 [itV y, .ptr (d + 1) 1 0, .ptr (d + 1) 3 0, .ptr (d + 1) 0 0, .ptr (d + 1) 4 0] (L :: set2 S d 2 (goneM g1)) (B b) (L :: set2 S d 2 (goneM g2)) := by
  have := hw _ _ ((h.upd g1).push L)
  rw [set2_suc, set2_set2] at this
  exact this
set_option maxRecDepth 100000 in
set_option maxHeartbeats 8000000 in
theorem foundC (p : List It) (x : It) : ∀ (N : Nat) (y : It) (g : List ByteArray) (b : Bool) (g' : List ByteArray), foundF p x.name N y.fields g = some (b, g') → FdC p x y g b g' := by
  intro N
  induction N using Nat.strongRecOn with
  | _ N IH =>
  intro y g b g' hf S d hF
  refine ADet.okA Tryz.call76 0 2 rfl rfl fun hok => ?_
  have hlen := okl hok
  have key : ADet Tryz.prog 76 [itV y, .ptr d 1 0, .ptr d 3 0, .ptr d 0 0, .ptr d 4 0] (set2 S d 2 (goneM g)) (B b) (set2 S d 2 (goneM g')) := by
    refine ADet.introQ mixed Tryz.call76 Tryz.func76 rfl (by kernel_rfl) ?_
    simp [Tryz.ntmps76]
    refine awq_loop (fun a : Nat × Nat × List ByteArray => a.1 ≤ y.fields.length ∧ a.2.1 ≤ N ∧ foundF p x.name a.2.1 (y.fields.drop a.1) a.2.2 = some (b, g')) (fun a => ([.any, .ptr (d + 1) 1 0, .ptr (d + 1) 3 0, .ptr (d + 1) 0 0, .ptr (d + 1) 4 0, .ptr 0 0 0, .any, B false, .any, .any, .any, .any, .any, .p (.sl 4 (y.fields.map Fi.enc)), I y.fields.length, I a.1] ++ List.replicate 44 .any)) (fun a => [.cells (itU y) 54] :: set2 S d 2 (goneM a.2.2)) (fun a => y.fields.length - a.1) (0, N, g) ⟨Nat.zero_le _, Nat.le_refl _, hf⟩ ?_ ?_ ?_
    · simp
    · simp
    rintro ⟨q, k, g1⟩ ⟨hq, hk, hg⟩
    simp only at hq hk hg
    have hF1 := hF.upd g1
    by_cases hlt : q < y.fields.length
    · have hlt' : (q : Int) < (y.fields.length : Int) := by omega
      have hd : y.fields.drop q = y.fields[q] :: y.fields.drop (q + 1) := List.drop_eq_getElem_cons hlt
      have hw := wrap_succ hlt
      have hm : y.fields.length - (q + 1) < y.fields.length - q := by omega
      rw [hd] at hg
      cases k with
      | zero => simp [foundF] at hg
      | succ k =>
      generalize he : y.fields[q] = f at *
      simp only [foundF] at hg
      have o1 := hF1.o1
      have o0 := hF1.o0
      have o2 := hF1.o2
      have o3 := hF1.o3
      have o4 := hF1.o4
      simp only [goneM] at o0 o1 o2 o3 o4
      by_cases h4 : f.type.kind = 4
      · rw [if_neg (by simp [h4])] at hg
        by_cases hn : sEq f.type.name x.name = true
        · rw [if_pos hn] at hg
          cases hg
          simp [hlt, hlt', he, Fi.enc, h4, o1, hn, goneM]
        · rw [if_neg hn] at hg
          have hn' : sEq f.type.name x.name = false := by simpa using hn
          obtain ⟨j, hj⟩ := find_gone f.type.name g1 0
          by_cases ha : g1.any (fun g => sEq f.type.name g) = true
          · rw [if_pos ha] at hg
            rw [if_pos ha] at hj
            simp [hlt, hlt', he, Fi.enc, h4, o1, o2, o3, hn', goneM, hj]
            exact ⟨q + 1, k, g1, ⟨hlt, by omega, hg⟩, by omega, hw, rfl⟩
          · rw [if_neg ha] at hg
            rw [if_neg ha] at hj
            have hF2 := hF.upd (g1 ++ [f.type.name])
            have p0 := hF2.o0
            have p4 := hF2.o4
            have fC := fun S => firstC p f.type.name S
            have hw1 : IntKind.i64.wrap 1 = 1 := by decide
            simp only [goneM, List.map_append, List.map_cons, List.map_nil] at p0 p4
            simp [hlt, hlt', he, Fi.enc, h4, o1, o2, o3, hn', goneM, hj, hw1, p0]
            refine ⟨_, _, fC _, ?_⟩
            unfold firstR
            cases hfi : firstIt p f.type.name with
            | none =>
              rw [hfi] at hg
              simp
              exact ⟨q + 1, k, g1 ++ [f.type.name], ⟨hlt, by omega, hg⟩, by omega, hw, by simp⟩
            | some z =>
              rw [hfi] at hg
              dsimp only at hg
              cases h5 : foundF p x.name k z.fields (g1 ++ [f.type.name]) with
              | none => rw [h5] at hg; cases hg
              | some r =>
                obtain ⟨b1, g2⟩ := r
                have hZ := fun L => (IH k (by omega) z _ b1 g2 h5).at hF L
                simp only [goneM, List.map_append, List.map_cons, List.map_nil] at hZ
                simp [p4]
                refine ⟨_, _, hZ _, ?_⟩
                cases b1 with
                | true =>
                  rw [h5] at hg
                  cases hg
                  simp
                | false =>
                  rw [h5] at hg
                  simp
                  exact ⟨q + 1, k, g2, ⟨hlt, by omega, hg⟩, by omega, hw, rfl⟩
      · rw [if_pos h4] at hg
        have h4' : (f.type.kind != 4) = true := by simpa using h4
        simp [hlt, hlt', he, Fi.enc, h4']
        exact ⟨q + 1, k, g1, ⟨hlt, by omega, hg⟩, by omega, hw, rfl⟩
    · have hlt' : ¬ (q : Int) < (y.fields.length : Int) := by omega
      rw [List.drop_of_length_le (by omega)] at hg
      have : b = false ∧ g1 = g' := by cases k <;> simp [foundF] at hg <;> exact ⟨by first | exact hg.1 | exact hg.1.symm, by first | exact hg.2 | exact hg.2.symm⟩
      obtain ⟨rfl, rfl⟩ := this
      simp [hlt']
  rw [hF.same] at key
  exact key
set_option maxRecDepth 100000 in
set_option maxHeartbeats 2000000 in
theorem itselfC (p : List It) (x : It) (n : Nat) (b : Bool) (g' : List ByteArray) (h : foundF p x.name n x.fields [] = some (b, g')) (S : ASt) : ADet Tryz.prog 45 [.agg [.p (prog p)], itV x] S (B b) S := by
  have fC := foundC p x n x [] b g' h
  refine ADet.intro mixed Tryz.call45 Tryz.func45 rfl ?_
  simp [Tryz.ntmps45]
  refine ⟨_, _, fC _ 0 ⟨rfl, rfl, rfl, rfl, rfl⟩, ?_⟩
  simp
end Go.Proofs.YtnblhbpfgdjnkaaGreatDoor
