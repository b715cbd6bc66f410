/- corpus.Count, corpus.At, weftwaylaw30.same, CorpusAt. -/
import Derived.Test.YtkgpkbclfncnfaaCorpus
import Derived.Test.YtkgpkbclfncnfaaMade
import Derived.Deep.RegionHeld3
namespace Go.Proofs.Ytkgpkbclfncnfaa
open Go.RowKit
set_option linter.unusedVariables false

set_option maxHeartbeats 400000 in
theorem count_any (w : World) : Calls Try.prog 9 #[] w fun e w' => e = .returned (.int .i64 18) ∧ Below w.heap.size w w' := by
  go_enter Try.func9, Try.ntmps9
  go_wp2_with (go_at_call 24; refine (all_any _).mono ?_; rintro e w1 ⟨rfl, rfl⟩)
  go_ret
  exact ⟨rfl, (Below.refl _ _).alloc (Nat.le_refl _) _⟩

/-- the cells of a row of the table, one by one -/
noncomputable def E (i j : Nat) : Value := (allCells[i * 8 + j]?).getD undef
def rowShape (cs : Array Value) (i : Nat) : Bool :=
  match cs[i * 8]?, cs[i * 8 + 1]?, cs[i * 8 + 2]?, cs[i * 8 + 3]?, cs[i * 8 + 4]?, cs[i * 8 + 5]?, cs[i * 8 + 6]?, cs[i * 8 + 7]? with
  | some (.string _), some (.string _), some (.bool _), some (.int .i64 _), some (.int .i64 _), some (.int .u8 _), some (.int .u8 _), some (.bool _) => true
  | _, _, _, _, _, _, _, _ => false
theorem all_shape : (List.range 18).all (rowShape allCells) = true := by kernel_rfl
theorem rows_same : rowCells = allCells := by kernel_rfl

theorem row_parts {cs : Array Value} {i : Nat} (h : rowShape cs i = true) : ∃ (s t : ByteArray) (b : Bool) (r g : Int) (k y : Int) (c : Bool),
    cs[i * 8]? = some (.string s) ∧ cs[i * 8 + 1]? = some (.string t) ∧ cs[i * 8 + 2]? = some (.bool b) ∧ cs[i * 8 + 3]? = some (.int .i64 r) ∧ cs[i * 8 + 4]? = some (.int .i64 g) ∧ cs[i * 8 + 5]? = some (.int .u8 k) ∧ cs[i * 8 + 6]? = some (.int .u8 y) ∧ cs[i * 8 + 7]? = some (.bool c) := by
  unfold rowShape at h
  split at h
  · exact ⟨_, _, _, _, _, _, _, _, by assumption, by assumption, by assumption, by assumption, by assumption, by assumption, by assumption, by assumption⟩
  · cases h

theorem at_row (i : Nat) (hi : i < 18) : ∃ (s t : ByteArray) (b : Bool) (r g : Int) (k y : Int) (c : Bool),
    allCells[i * 8]? = some (.string s) ∧ allCells[i * 8 + 1]? = some (.string t) ∧ allCells[i * 8 + 2]? = some (.bool b) ∧ allCells[i * 8 + 3]? = some (.int .i64 r) ∧ allCells[i * 8 + 4]? = some (.int .i64 g) ∧ allCells[i * 8 + 5]? = some (.int .u8 k) ∧ allCells[i * 8 + 6]? = some (.int .u8 y) ∧ allCells[i * 8 + 7]? = some (.bool c) :=
  row_parts (List.all_eq_true.1 all_shape i (List.mem_range.2 hi))

theorem results_cell_tmp {P : Program} {fn : Func} {T : Array Value} {w : World} {c d : Nat} {t : TypeId} {p : Addr} {v x : Value} (hr : fn.results = #[.cell c t, .tmp d]) (hc : T.getD c undef = .pointer (some p))
    (hl : (loadVar t p).run P w = .ok v w) (hd : T.getD d undef = x) : (results fn T).run P w = .ok (.tuple #[v, x]) w := by
  rw [Array.getD_eq_getD_getElem?] at hc hd
  simp [results, hr, hc, hl, hd, asAddr]

theorem entry_load {w : World} {b : Nat} {cs : Array Value} (h : w.heap[b]? = some (.cells cs 25)) (h8 : cs.size = 8) : (loadVar 25 ⟨b, 0, none⟩).run Try.prog w = .ok (.agg cs) w :=
  run_loadVar_row w b 25 25 cs (0, 0) _ h Try.underlying25 rfl (by rw [h8]; kernel_rfl)
theorem info_zero : (Try.prog.info? 64).map (fun i => (i.zero, i.size)) = some (some (.agg allZero), 144) := by kernel_rfl

theorem all_below (w : World) : Calls Try.prog 24 #[] w fun e w' => e = .returned (.agg allCells) ∧ Below w.heap.size w w' :=
  (all_any w).mono fun e w' ⟨h, h'⟩ => ⟨h, by rw [h']; exact (Below.refl _ _).alloc (Nat.le_refl _) _⟩

abbrev zeroEntry : Array Value := #[.string ⟨#[]⟩, .string ⟨#[]⟩, .bool false, .int .i64 0, .int .i64 0, .int .u8 0, .int .u8 0, .bool false]

set_option maxRecDepth 100000 in
set_option maxHeartbeats 1000000 in
theorem at_no (n : Int) (w : World) (hn : ¬ (0 ≤ n ∧ n < 18)) (hb : -9223372036854775808 ≤ n ∧ n ≤ 9223372036854775807) : Calls Try.prog 8 #[.int .i64 n] w fun e w' =>
    e = .returned (.tuple #[.agg zeroEntry, .bool false]) ∧ Below w.heap.size w w' := by
  have hz := (zero_of_info info_zero).1
  have hst := fun w => run_storeCells_new (P := Try.prog) w 64 allZero allCells (by rw [all_size]; exact info_all) (by rw [zero_size, all_size]) all_one
  have hsz := all_size
  rcases (by omega : n < 0 ∨ (¬ n < 0 ∧ 18 ≤ n)) with h | ⟨h, h'⟩
  all_goals clear hn
  all_goals
    go_enter Try.func8, Try.ntmps8
    go_wp2_with fail
    refine (all_below _).mono ?_
    rintro e w1 ⟨rfl, hb1⟩
    have hk := blk_below (blk_new w (.cells zeroEntry 25)) hb1 (by simp)
    have hbb : Below w.heap.size w w1 := ((Below.refl _ _).alloc (Nat.le_refl _) _).trans (hb1.mono (by simp))
    have hzz := blk_lt hk
    clear hb1
    have k0 : w1.cell? ⟨w.heap.size, 0, none⟩ = some (.string ⟨#[]⟩) := cell_blk hk 0
    have k1 : w1.cell? ⟨w.heap.size, 1, none⟩ = some (.string ⟨#[]⟩) := cell_blk hk 1
    have k2 : w1.cell? ⟨w.heap.size, 2, none⟩ = some (.bool false) := cell_blk hk 2
    have k3 : w1.cell? ⟨w.heap.size, 3, none⟩ = some (.int .i64 0) := cell_blk hk 3
    have k4 : w1.cell? ⟨w.heap.size, 4, none⟩ = some (.int .i64 0) := cell_blk hk 4
    have k5 : w1.cell? ⟨w.heap.size, 5, none⟩ = some (.int .u8 0) := cell_blk hk 5
    have k6 : w1.cell? ⟨w.heap.size, 6, none⟩ = some (.int .u8 0) := cell_blk hk 6
    have k7 : w1.cell? ⟨w.heap.size, 7, none⟩ = some (.bool false) := cell_blk hk 7
    have rf := fun i => frozen_blk hk i
    go_wp2
    have hl := entry_load (blk_alloc (blk_set (blk_set (blk_set (blk_set (blk_set (blk_set (blk_set (blk_set hk 0 (.string ⟨#[]⟩)) 1 (.string ⟨#[]⟩)) 2 (.bool false)) 3 (.int .i64 0)) 4 (.int .i64 0)) 5 (.int .u8 0)) 6 (.int .u8 0)) 7 (.bool false)) (.cells allCells 64)) (by simp)
    have hbf : Below w.heap.size w _ := ((((((((hbb.setCell (p := ⟨w.heap.size, 0, none⟩) (Nat.le_refl _) (.string ⟨#[]⟩)).setCell (p := ⟨w.heap.size, 1, none⟩) (Nat.le_refl _) (.string ⟨#[]⟩)).setCell (p := ⟨w.heap.size, 2, none⟩) (Nat.le_refl _) (.bool false)).setCell (p := ⟨w.heap.size, 3, none⟩) (Nat.le_refl _) (.int .i64 0)).setCell (p := ⟨w.heap.size, 4, none⟩) (Nat.le_refl _) (.int .i64 0)).setCell (p := ⟨w.heap.size, 5, none⟩) (Nat.le_refl _) (.int .u8 0)).setCell (p := ⟨w.heap.size, 6, none⟩) (Nat.le_refl _) (.int .u8 0)).setCell (p := ⟨w.heap.size, 7, none⟩) (Nat.le_refl _) (.bool false)).alloc (by simp [World.setCell]; omega) (.cells allCells 64)
    refine bodyPost_ret (results_cell_tmp Try.results8 rfl hl rfl) rfl ⟨by simp, hbf⟩

set_option maxRecDepth 100000 in
set_option maxHeartbeats 1000000 in
theorem at_yes (i : Nat) (w : World) (hi : i < 18) (s t : ByteArray) (b : Bool) (r g : Int) (k y : Int) (c : Bool)
    (e0 : allCells[i * 8]? = some (.string s)) (e1 : allCells[i * 8 + 1]? = some (.string t)) (e2 : allCells[i * 8 + 2]? = some (.bool b)) (e3 : allCells[i * 8 + 3]? = some (.int .i64 r)) (e4 : allCells[i * 8 + 4]? = some (.int .i64 g)) (e5 : allCells[i * 8 + 5]? = some (.int .u8 k)) (e6 : allCells[i * 8 + 6]? = some (.int .u8 y)) (e7 : allCells[i * 8 + 7]? = some (.bool c)) :
    Calls Try.prog 8 #[.int .i64 i] w fun e w' =>
    e = .returned (.tuple #[.agg #[.string s, .string t, .bool b, .int .i64 r, .int .i64 g, .int .u8 k, .int .u8 y, .bool c], .bool true]) ∧ Below w.heap.size w w' := by
  have hz := (zero_of_info info_zero).1
  have hst := fun w => run_storeCells_new (P := Try.prog) w 64 allZero allCells (by rw [all_size]; exact info_all) (by rw [zero_size, all_size]) all_one
  have hsz := all_size
  have h0 : ¬ (i : Int) < 0 := by omega
  have h1 : ¬ 18 ≤ (i : Int) := by omega
  have h2 : (i : Int) < 18 := by omega
  go_enter Try.func8, Try.ntmps8
  go_wp2_with fail
  refine (all_below _).mono ?_
  rintro e w1 ⟨rfl, hb1⟩
  have hk := blk_below (blk_new w (.cells zeroEntry 25)) hb1 (by simp)
  have hbb : Below w.heap.size w w1 := ((Below.refl _ _).alloc (Nat.le_refl _) _).trans (hb1.mono (by simp))
  have hzz := blk_lt hk
  clear hb1
  have k0 : w1.cell? ⟨w.heap.size, 0, none⟩ = some (.string ⟨#[]⟩) := cell_blk hk 0
  have k1 : w1.cell? ⟨w.heap.size, 1, none⟩ = some (.string ⟨#[]⟩) := cell_blk hk 1
  have k2 : w1.cell? ⟨w.heap.size, 2, none⟩ = some (.bool false) := cell_blk hk 2
  have k3 : w1.cell? ⟨w.heap.size, 3, none⟩ = some (.int .i64 0) := cell_blk hk 3
  have k4 : w1.cell? ⟨w.heap.size, 4, none⟩ = some (.int .i64 0) := cell_blk hk 4
  have k5 : w1.cell? ⟨w.heap.size, 5, none⟩ = some (.int .u8 0) := cell_blk hk 5
  have k6 : w1.cell? ⟨w.heap.size, 6, none⟩ = some (.int .u8 0) := cell_blk hk 6
  have k7 : w1.cell? ⟨w.heap.size, 7, none⟩ = some (.bool false) := cell_blk hk 7
  have rf := fun i => frozen_blk hk i
  go_wp2
  have hl := entry_load (blk_alloc (blk_set (blk_set (blk_set (blk_set (blk_set (blk_set (blk_set (blk_set hk 0 (.string s)) 1 (.string t)) 2 (.bool b)) 3 (.int .i64 r)) 4 (.int .i64 g)) 5 (.int .u8 k)) 6 (.int .u8 y)) 7 (.bool c)) (.cells allCells 64)) (by simp)
  have hbf : Below w.heap.size w _ := ((((((((hbb.setCell (p := ⟨w.heap.size, 0, none⟩) (Nat.le_refl _) (.string s)).setCell (p := ⟨w.heap.size, 1, none⟩) (Nat.le_refl _) (.string t)).setCell (p := ⟨w.heap.size, 2, none⟩) (Nat.le_refl _) (.bool b)).setCell (p := ⟨w.heap.size, 3, none⟩) (Nat.le_refl _) (.int .i64 r)).setCell (p := ⟨w.heap.size, 4, none⟩) (Nat.le_refl _) (.int .i64 g)).setCell (p := ⟨w.heap.size, 5, none⟩) (Nat.le_refl _) (.int .u8 k)).setCell (p := ⟨w.heap.size, 6, none⟩) (Nat.le_refl _) (.int .u8 y)).setCell (p := ⟨w.heap.size, 7, none⟩) (Nat.le_refl _) (.bool c)).alloc (by simp [World.setCell]; omega) (.cells allCells 64)
  refine bodyPost_ret (results_cell_tmp Try.results8 rfl hl rfl) rfl ⟨by simp, hbf⟩
set_option maxRecDepth 100000 in
set_option maxHeartbeats 1000000 in
theorem same_any (w : World) (s t : ByteArray) (b : Bool) (r g : Int) (k y : Int) (c : Bool) :
    Calls Try.prog 10 #[.agg #[.string s, .string t, .bool b, .int .i64 r, .int .i64 g, .int .u8 k, .int .u8 y, .bool c], .agg #[.string s, .string t, .bool b, .int .i64 r, .int .i64 g, .int .u8 k, .int .u8 y, .bool c]] w fun e w' => e = .returned (.bool true) ∧ Below w.heap.size w w' := by
  have hb : Hid (∀ o o', Below w.heap.size w ((w.alloc o).alloc o')) := fun o o' => ((Below.refl _ _).alloc (Nat.le_refl _) _).alloc (by simp) _
  go_enter Try.func10, Try.ntmps10
  go_wp2
  go_ret
  exact ⟨by simp, hb.out _ _⟩


set_option maxRecDepth 100000 in
set_option maxHeartbeats 1000000 in
theorem corpusAt_no (n : Int) (w : World) (hn : ¬ (0 ≤ n ∧ n < 18)) (hb : -9223372036854775808 ≤ n ∧ n ≤ 9223372036854775807) :
    Calls Try.prog 3 #[.int .i64 n] w fun e w' => e = .returned (.bool true) ∧ Below w.heap.size w w' := by
  have Hat := Lib.hid (fun w1 => at_no n w1 hn hb)
  rcases (by omega : n < 0 ∨ (¬ n < 0 ∧ 18 ≤ n)) with h | ⟨h, h'⟩
  all_goals clear hn
  all_goals
    go_enter Try.func3, Try.ntmps3
    go_wp2_with fail
    refine (rows_any _).mono ?_
    rintro e w1 ⟨rfl, hw1⟩
    have hb1 : Below w.heap.size w w1 := by rw [hw1]; exact (Below.refl _ _).alloc (Nat.le_refl _) _
    have hz1 := hb1.size
    clear hw1
    go_wp2_with fail
    refine (Hat.out _).mono ?_
    rintro e w2 ⟨rfl, hb2⟩
    have hb3 := hb1.trans (hb2.mono hz1)
    have hz3 := hb3.size
    clear hb2
    have hba : Hid (∀ o, Below w.heap.size w (w2.alloc o)) := fun o => hb3.alloc hz3 o
    go_wp2_with (go_at_call 9; refine (count_any _).mono ?_; rintro e w4 ⟨rfl, hb4⟩)
    go_ret
    exact ⟨rfl, (hba.out _).trans (hb4.mono (by simp; omega))⟩
set_option maxRecDepth 100000 in
set_option maxHeartbeats 2000000 in
theorem corpusAt_yes (i : Nat) (w : World) (hi : i < 18) :
    Calls Try.prog 3 #[.int .i64 i] w fun e w' => e = .returned (.bool true) ∧ Below w.heap.size w w' := by
  obtain ⟨s, t, b, r, g, k, y, c, e0, e1, e2, e3, e4, e5, e6, e7⟩ := at_row i hi
  have Hat := Lib.hid (fun w1 => at_yes i w1 hi s t b r g k y c e0 e1 e2 e3 e4 e5 e6 e7)
  have h0 : ¬ (i : Int) < 0 := by omega
  have h1 : ¬ 18 ≤ (i : Int) := by omega
  have h2 : (i : Int) < 18 := by omega
  have h3 : (0 : Int) ≤ i := by omega
  go_enter Try.func3, Try.ntmps3
  go_wp2_with fail
  refine (rows_any _).mono ?_
  rintro e w1 ⟨rfl, hw1⟩
  have hb1 : Below w.heap.size w w1 := by rw [hw1]; exact (Below.refl _ _).alloc (Nat.le_refl _) _
  have hk : w1.heap[w.heap.size]? = some (.cells allCells 30) := by rw [hw1, rows_same]; exact blk_new _ _
  have hz1 := hb1.size
  clear hw1
  go_wp2_with fail
  refine (Hat.out _).mono ?_
  rintro e w2 ⟨rfl, hb2⟩
  have hb3 := hb1.trans (hb2.mono hz1)
  have hz3 := hb3.size
  have hk2 := blk_below hk hb2 (blk_lt hk)
  clear hb2 hk
  have hba : Hid (∀ o, Below w.heap.size w (w2.alloc o)) := fun o => hb3.alloc hz3 o
  have hlt := blk_lt hk2
  have d0 : w2.cell? ⟨w.heap.size, i * 8, none⟩ = some (.string s) := (cell_blk hk2 _).trans e0
  have d1 : w2.cell? ⟨w.heap.size, i * 8 + 1, none⟩ = some (.string t) := (cell_blk hk2 _).trans e1
  have d2 : w2.cell? ⟨w.heap.size, i * 8 + 2, none⟩ = some (.bool b) := (cell_blk hk2 _).trans e2
  have d3 : w2.cell? ⟨w.heap.size, i * 8 + 3, none⟩ = some (.int .i64 r) := (cell_blk hk2 _).trans e3
  have d4 : w2.cell? ⟨w.heap.size, i * 8 + 4, none⟩ = some (.int .i64 g) := (cell_blk hk2 _).trans e4
  have d5 : w2.cell? ⟨w.heap.size, i * 8 + 5, none⟩ = some (.int .u8 k) := (cell_blk hk2 _).trans e5
  have d6 : w2.cell? ⟨w.heap.size, i * 8 + 6, none⟩ = some (.int .u8 y) := (cell_blk hk2 _).trans e6
  have d7 : w2.cell? ⟨w.heap.size, i * 8 + 7, none⟩ = some (.bool c) := (cell_blk hk2 _).trans e7
  clear e0 e1 e2 e3 e4 e5 e6 e7 hk2
  go_wp2_with fail
  generalize hwa : w2.alloc (.cells #[.string s, .string t, .bool b, .int .i64 r, .int .i64 g, .int .u8 k, .int .u8 y, .bool c] 25) = wa
  have hbw : Below w.heap.size w wa := by rw [← hwa]; exact hba.out _
  have hzw := hbw.size
  have hS : wa.cell? ⟨w2.heap.size, 0, none⟩ = some (.string s) ∧ wa.cell? ⟨w2.heap.size, 1, none⟩ = some (.string t) ∧ wa.cell? ⟨w2.heap.size, 2, none⟩ = some (.bool b) ∧ wa.cell? ⟨w2.heap.size, 3, none⟩ = some (.int .i64 r) ∧ wa.cell? ⟨w2.heap.size, 4, none⟩ = some (.int .i64 g) ∧ wa.cell? ⟨w2.heap.size, 5, none⟩ = some (.int .u8 k) ∧ wa.cell? ⟨w2.heap.size, 6, none⟩ = some (.int .u8 y) ∧ wa.cell? ⟨w2.heap.size, 7, none⟩ = some (.bool c) ∧ wa.cell? ⟨w.heap.size, i * 8, none⟩ = some (.string s) ∧ wa.cell? ⟨w.heap.size, i * 8 + 1, none⟩ = some (.string t) ∧ wa.cell? ⟨w.heap.size, i * 8 + 2, none⟩ = some (.bool b) ∧ wa.cell? ⟨w.heap.size, i * 8 + 3, none⟩ = some (.int .i64 r) ∧ wa.cell? ⟨w.heap.size, i * 8 + 4, none⟩ = some (.int .i64 g) ∧ wa.cell? ⟨w.heap.size, i * 8 + 5, none⟩ = some (.int .u8 k) ∧ wa.cell? ⟨w.heap.size, i * 8 + 6, none⟩ = some (.int .u8 y) ∧ wa.cell? ⟨w.heap.size, i * 8 + 7, none⟩ = some (.bool c) := by
    rw [← hwa]
    refine ⟨?_, ?_, ?_, ?_, ?_, ?_, ?_, ?_, ?_, ?_, ?_, ?_, ?_, ?_, ?_, ?_⟩ <;> first | (rw [World.cell?_alloc_lt _ _ _ (by simpa using hlt)]; assumption) | simp [go_sem]
  clear d0 d1 d2 d3 d4 d5 d6 d7 hwa
  go_region_held3 (fun w' => w'.cell? ⟨w2.heap.size, 0, none⟩ = some (.string s) ∧ w'.cell? ⟨w2.heap.size, 1, none⟩ = some (.string t) ∧ w'.cell? ⟨w2.heap.size, 2, none⟩ = some (.bool b) ∧ w'.cell? ⟨w2.heap.size, 3, none⟩ = some (.int .i64 r) ∧ w'.cell? ⟨w2.heap.size, 4, none⟩ = some (.int .i64 g) ∧ w'.cell? ⟨w2.heap.size, 5, none⟩ = some (.int .u8 k) ∧ w'.cell? ⟨w2.heap.size, 6, none⟩ = some (.int .u8 y) ∧ w'.cell? ⟨w2.heap.size, 7, none⟩ = some (.bool c) ∧ w'.cell? ⟨w.heap.size, i * 8, none⟩ = some (.string s) ∧ w'.cell? ⟨w.heap.size, i * 8 + 1, none⟩ = some (.string t) ∧ w'.cell? ⟨w.heap.size, i * 8 + 2, none⟩ = some (.bool b) ∧ w'.cell? ⟨w.heap.size, i * 8 + 3, none⟩ = some (.int .i64 r) ∧ w'.cell? ⟨w.heap.size, i * 8 + 4, none⟩ = some (.int .i64 g) ∧ w'.cell? ⟨w.heap.size, i * 8 + 5, none⟩ = some (.int .u8 k) ∧ w'.cell? ⟨w.heap.size, i * 8 + 6, none⟩ = some (.int .u8 y) ∧ w'.cell? ⟨w.heap.size, i * 8 + 7, none⟩ = some (.bool c))
    (exact hS)
    (first
      | (go_at_call 10; refine (same_any _ s t b r g k y c).mono ?_; rintro e w4 ⟨rfl, hb4⟩; replace hb4 := undrew hb4; replace hS := keep16 hb4 hS; have hb5 := hbw.trans (hb4.mono hzw); have hz5 := hb5.size; clear hb4)
      | (go_at_call 9; refine (count_any _).mono ?_; rintro e w6 ⟨rfl, hb6⟩; replace hS := keep16 hb6 hS; have hb7 := hb5.trans (hb6.mono hz5); clear hb6))
  go_wp2
  go_ret
  exact ⟨rfl, hb7⟩
end Go.Proofs.Ytkgpkbclfncnfaa
