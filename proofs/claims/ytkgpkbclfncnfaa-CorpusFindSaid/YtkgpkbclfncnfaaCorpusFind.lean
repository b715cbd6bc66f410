/- corpus.Find, corpus.Names, CorpusFind. -/
import Derived.Test.YtkgpkbclfncnfaaCorpusAt
namespace Go.Proofs.Ytkgpkbclfncnfaa
open Go.RowKit
set_option linter.unusedVariables false

/-- the name of a row -/
noncomputable def nm (i : Nat) : ByteArray := match allCells[i * 8]? with
  | some (.string s) => s
  | _ => ⟨#[]⟩
theorem nm_eq {i : Nat} {s : ByteArray} (h : allCells[i * 8]? = some (.string s)) : nm i = s := by
  unfold nm; rw [h]

/-- what Find tells -/
def Found (name : ByteArray) (v : Value) : Prop :=
  (∃ (i : Nat) (s t : ByteArray) (b : Bool) (r g : Int) (k y : Int) (c : Bool), i < 18 ∧ (nm i).toList = name.toList ∧ (allCells[i * 8]? = some (.string s) ∧ allCells[i * 8 + 1]? = some (.string t) ∧ allCells[i * 8 + 2]? = some (.bool b) ∧ allCells[i * 8 + 3]? = some (.int .i64 r) ∧ allCells[i * 8 + 4]? = some (.int .i64 g) ∧ allCells[i * 8 + 5]? = some (.int .u8 k) ∧ allCells[i * 8 + 6]? = some (.int .u8 y) ∧ allCells[i * 8 + 7]? = some (.bool c))
      ∧ v = .tuple #[.agg #[.string s, .string t, .bool b, .int .i64 r, .int .i64 g, .int .u8 k, .int .u8 y, .bool c], .bool true])
  ∨ ((∀ i, i < 18 → ¬ (nm i).toList = name.toList) ∧ v = .tuple #[.agg zeroEntry, .bool false])

set_option maxRecDepth 100000 in
set_option maxHeartbeats 2000000 in
theorem find_any (name : ByteArray) (hs : name.size ≤ maxLen) (w : World) : Calls Try.prog 18 #[.string name] w fun e w' => ∃ v, e = .returned v ∧ Found name v ∧ Below w.heap.size w w' := by
  go_enter Try.func18, Try.ntmps18
  go_wp2_with fail
  refine (count_any _).mono ?_
  rintro e w0 ⟨rfl, hb0⟩
  have hk0 := blk_below (blk_new w (.cells zeroEntry 25)) hb0 (by simp)
  have hbw0 : Below w.heap.size w w0 := ((Below.refl _ _).alloc (Nat.le_refl _) _).trans (hb0.mono (by simp))
  clear hb0
  go_wp2
  go_loopw [8] (fun i wr => ∃ q : Nat, q ≤ 18 ∧ i = .int .i64 q ∧ (∀ j, j < q → ¬ (nm j).toList = name.toList) ∧ Below w.heap.size w wr ∧ wr.heap[w.heap.size]? = some (.cells zeroEntry 25)) (fun i _ => 18 - (intOf i).toNat)
  case atStart => exact ⟨0, by omega, rfl, fun j h => by omega, hbw0, hk0⟩
  case round =>
    obtain ⟨q, hq, rfl, hall, hb, hblk⟩ := hrel
    have k0 : wr.cell? ⟨w.heap.size, 0, none⟩ = some (.string ⟨#[]⟩) := cell_blk hblk 0
    have k1 : wr.cell? ⟨w.heap.size, 1, none⟩ = some (.string ⟨#[]⟩) := cell_blk hblk 1
    have k2 : wr.cell? ⟨w.heap.size, 2, none⟩ = some (.bool false) := cell_blk hblk 2
    have k3 : wr.cell? ⟨w.heap.size, 3, none⟩ = some (.int .i64 0) := cell_blk hblk 3
    have k4 : wr.cell? ⟨w.heap.size, 4, none⟩ = some (.int .i64 0) := cell_blk hblk 4
    have k5 : wr.cell? ⟨w.heap.size, 5, none⟩ = some (.int .u8 0) := cell_blk hblk 5
    have k6 : wr.cell? ⟨w.heap.size, 6, none⟩ = some (.int .u8 0) := cell_blk hblk 6
    have k7 : wr.cell? ⟨w.heap.size, 7, none⟩ = some (.bool false) := cell_blk hblk 7
    have hz : w.heap.size < wr.heap.size := blk_lt hblk
    have Hall := Lib.hid hall
    clear hall
    by_cases hlt : q < 18
    · obtain ⟨s, t, b, r, g, k, y, c, hrow⟩ := at_row q hlt
      have Hrow := Lib.hid hrow
      have Hat := Lib.hid (fun w1 => let ⟨e0, e1, e2, e3, e4, e5, e6, e7⟩ := hrow; at_yes q w1 hlt s t b r g k y c e0 e1 e2 e3 e4 e5 e6 e7)
      have hnm := Lib.hid (nm_eq hrow.1)
      have hl : (q : Int) < 18 := by omega
      clear hrow k0 k1 k2 k3 k4 k5 k6 k7
      go_wp2_with fail
      refine (Hat.out _).mono ?_
      rintro e w1 ⟨rfl, hb1⟩
      have hblk1 := blk_below hblk hb1 hz
      have hbw1 := hb.trans (hb1.mono (by omega))
      have hz1 := blk_lt hblk1
      have m0 : w1.cell? ⟨w.heap.size, 0, none⟩ = some (.string ⟨#[]⟩) := cell_blk hblk1 0
      have m1 : w1.cell? ⟨w.heap.size, 1, none⟩ = some (.string ⟨#[]⟩) := cell_blk hblk1 1
      have m2 : w1.cell? ⟨w.heap.size, 2, none⟩ = some (.bool false) := cell_blk hblk1 2
      have m3 : w1.cell? ⟨w.heap.size, 3, none⟩ = some (.int .i64 0) := cell_blk hblk1 3
      have m4 : w1.cell? ⟨w.heap.size, 4, none⟩ = some (.int .i64 0) := cell_blk hblk1 4
      have m5 : w1.cell? ⟨w.heap.size, 5, none⟩ = some (.int .u8 0) := cell_blk hblk1 5
      have m6 : w1.cell? ⟨w.heap.size, 6, none⟩ = some (.int .u8 0) := cell_blk hblk1 6
      have m7 : w1.cell? ⟨w.heap.size, 7, none⟩ = some (.bool false) := cell_blk hblk1 7
      have rf := fun i => frozen_blk hblk1 i
      clear hb1 hblk
      by_cases hn : s.toList = name.toList
      · have hn' : (s.toList == name.toList) = true := by simpa using hn
        go_wp2
        have hl := entry_load (blk_alloc (blk_set (blk_set (blk_set (blk_set (blk_set (blk_set (blk_set (blk_set hblk1 0 (.string s)) 1 (.string t)) 2 (.bool b)) 3 (.int .i64 r)) 4 (.int .i64 g)) 5 (.int .u8 k)) 6 (.int .u8 y)) 7 (.bool c)) (.cells #[.string s, .string t, .bool b, .int .i64 r, .int .i64 g, .int .u8 k, .int .u8 y, .bool c] 25)) (by simp)
        have hbf : Below w.heap.size w _ := ((((((((hbw1.setCell (p := ⟨w.heap.size, 0, none⟩) (Nat.le_refl _) (.string s)).setCell (p := ⟨w.heap.size, 1, none⟩) (Nat.le_refl _) (.string t)).setCell (p := ⟨w.heap.size, 2, none⟩) (Nat.le_refl _) (.bool b)).setCell (p := ⟨w.heap.size, 3, none⟩) (Nat.le_refl _) (.int .i64 r)).setCell (p := ⟨w.heap.size, 4, none⟩) (Nat.le_refl _) (.int .i64 g)).setCell (p := ⟨w.heap.size, 5, none⟩) (Nat.le_refl _) (.int .u8 k)).setCell (p := ⟨w.heap.size, 6, none⟩) (Nat.le_refl _) (.int .u8 y)).setCell (p := ⟨w.heap.size, 7, none⟩) (Nat.le_refl _) (.bool c)).alloc (by simp [World.setCell]; omega) (.cells #[.string s, .string t, .bool b, .int .i64 r, .int .i64 g, .int .u8 k, .int .u8 y, .bool c] 25)
        refine bodyPost_ret (results_cell_tmp Try.results18 rfl hl rfl) rfl ⟨_, rfl, Or.inl ⟨q, s, t, b, r, g, k, y, c, hlt, by rw [hnm.out, hn], Hrow.out, by simp⟩, hbf⟩
      · have hn' : (s.toList == name.toList) = false := by simpa using hn
        go_wp2
        exact ⟨⟨q + 1, by omega, by go_num, fun j hj => by
          rcases Nat.lt_or_ge j q with h | h
          · exact Hall.out j h
          · obtain rfl : j = q := by omega
            rw [hnm.out]; exact hn, hbw1.alloc (by omega) _, blk_alloc hblk1 _⟩, by simp [intOf]; omega⟩
    · have rf := fun i => frozen_blk hblk i
      have hl : ¬ (q : Int) < 18 := by omega
      go_wp2
      have hl := entry_load (blk_set (blk_set (blk_set (blk_set (blk_set (blk_set (blk_set (blk_set hblk 0 (.string ⟨#[]⟩)) 1 (.string ⟨#[]⟩)) 2 (.bool false)) 3 (.int .i64 0)) 4 (.int .i64 0)) 5 (.int .u8 0)) 6 (.int .u8 0)) 7 (.bool false)) (by simp)
      have hbf : Below w.heap.size w _ := ((((((((hb.setCell (p := ⟨w.heap.size, 0, none⟩) (Nat.le_refl _) (.string ⟨#[]⟩)).setCell (p := ⟨w.heap.size, 1, none⟩) (Nat.le_refl _) (.string ⟨#[]⟩)).setCell (p := ⟨w.heap.size, 2, none⟩) (Nat.le_refl _) (.bool false)).setCell (p := ⟨w.heap.size, 3, none⟩) (Nat.le_refl _) (.int .i64 0)).setCell (p := ⟨w.heap.size, 4, none⟩) (Nat.le_refl _) (.int .i64 0)).setCell (p := ⟨w.heap.size, 5, none⟩) (Nat.le_refl _) (.int .u8 0)).setCell (p := ⟨w.heap.size, 6, none⟩) (Nat.le_refl _) (.int .u8 0)).setCell (p := ⟨w.heap.size, 7, none⟩) (Nat.le_refl _) (.bool false))
      refine bodyPost_ret (results_cell_tmp Try.results18 rfl hl rfl) rfl ⟨_, rfl, Or.inr ⟨fun i hi => Hall.out i (by omega), by simp⟩, hbf⟩
end Go.Proofs.Ytkgpkbclfncnfaa
