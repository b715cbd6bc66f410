/- weftwaylaw30.CorpusFind: the walk where the name may be a row's. -/
import Derived.Test.YtkgpkbclfncnfaaCorpusFindLaw
import Derived.Deep.QuietTactic
import Derived.BigQuiet
import Derived.Deep.RegionHeld3
namespace Go.Proofs.Ytkgpkbclfncnfaa
open Go.RowKit
set_option linter.unusedVariables false

set_option maxRecDepth 100000 in
set_option maxHeartbeats 2000000 in
theorem corpusFind_neg (name : ByteArray) (n : Int) (w : World) (h : ¬ 100 < (name.size : Int)) (hn0 : ¬ 0 ≤ n) :
    Calls Try.prog 5 #[.string name, .int .i64 n, .bool true] w fun e w' => e = .returned (.bool true) ∧ Below w.heap.size w w' := by
  have hs : name.size ≤ maxLen := by unfold maxLen; omega
  go_enter Try.func5, Try.ntmps5
  go_wp2_with fail
  refine (rows_any _).mono ?_
  rintro e w1 ⟨rfl, hw1⟩
  have hb1 : Below w.heap.size w w1 := by rw [hw1]; exact (Below.refl _ _).alloc (Nat.le_refl _) _
  have hk : w1.heap[w.heap.size]? = some (.cells allCells 30) := by rw [hw1, rows_same]; exact blk_new _ _
  have hz1 := hb1.size
  clear hw1
  go_wp2_with fail
  refine (find_any name hs _).mono ?_
  rintro e w2 ⟨v, rfl, hv, hb2⟩
  have hk2 := blk_below hk hb2 (blk_lt hk)
  have hb3 := hb1.trans (hb2.mono hz1)
  clear hk hb2
  rcases hv with ⟨i, s, t, b, r, g, k, y, c, hi, hn, hrow, rfl⟩ | ⟨hno, rfl⟩
  · have hz2 : w2.heap.size + 1 = (w2.alloc (.cells #[.string s, .string t, .bool b, .int .i64 r, .int .i64 g, .int .u8 k, .int .u8 y, .bool c] 25)).heap.size := by simp
    have hblkx := blk_new w2 (.cells #[.string s, .string t, .bool b, .int .i64 r, .int .i64 g, .int .u8 k, .int .u8 y, .bool c] 25)
    have hba := hb3.alloc hb3.size (.cells #[.string s, .string t, .bool b, .int .i64 r, .int .i64 g, .int .u8 k, .int .u8 y, .bool c] 25)
    have hkx := blk_alloc hk2 (.cells #[.string s, .string t, .bool b, .int .i64 r, .int .i64 g, .int .u8 k, .int .u8 y, .bool c] 25)
    go_wp2_with fail
    refine (names_any _).mono ?_
    rintro e w3 ⟨v, rfl, hm, hb4⟩
    obtain ⟨gn, capn, cs, rfl, hgn, hcs, hnames⟩ := names_block hm
    have hrows := blk_below hkx hb4 (blk_lt hkx)
    have hent := blk_below hblkx hb4 (blk_lt hblkx)
    have hb5 := hba.trans (hb4.mono hba.size)
    have hg2 : w2.heap.size + 1 ≤ gn := by simpa using hgn
    have hw2 := hb3.size
    clear hm hb4 hkx hblkx hba hk2
    go_wp2
    go_loopw [12, 11] (fun iv isv wr => ∃ q : Nat, q ≤ 18 ∧ iv = .int .i64 q ∧ isv = .bool (decide (i < q)) ∧ Below w.heap.size w wr ∧ wr.heap[w.heap.size]? = some (.cells allCells 30)
        ∧ wr.heap[w2.heap.size]? = some (.cells #[.string s, .string t, .bool b, .int .i64 r, .int .i64 g, .int .u8 k, .int .u8 y, .bool c] 25)
        ∧ ∃ cs : Array Value, wr.heap[gn]? = some (.cells cs 9) ∧ ∀ j, q ≤ j → j < 18 → cs[j]? = some (.string (nm j))) (fun iv _ _ => 18 - (intOf iv).toNat)
    case atStart => exact ⟨0, by omega, rfl, by simp, hb5, hrows, hent, cs, hcs, fun j _ hj => hnames j hj⟩
    case round =>
      obtain ⟨q, hq, rfl, rfl, hb, hro, hen, cs, hcs, hnames⟩ := hrel
      have ha0 : (0 : Int) ≤ q := by omega
      by_cases hlt : q < 18
      · obtain ⟨s', t', b', r', g', k', y', c', hrow'⟩ := at_row q hlt
        have hnm := nm_eq hrow'.1
        have hl : (q : Int) < 18 := by omega
        have d0 : wr.cell? ⟨w.heap.size, q * 8, none⟩ = some (.string s') := (cell_blk hro _).trans hrow'.1
        have n0 : wr.cell? ⟨gn, q, none⟩ = some (.string s') := by rw [cell_blk hcs, hnames q (Nat.le_refl _) hlt, hnm]
        have nf : wr.frozen? ⟨gn, q, none⟩ = false := frozen_blk hcs q
        by_cases heq : s'.toList = name.toList
        · have heq' : (s'.toList == name.toList) = true := by simpa using heq
          obtain rfl : i = q := nm_inj hi hlt (by rw [hn, hnm, heq])
          have hS : (fun W : World => W.cell? ⟨w2.heap.size, 0, none⟩ = some (.string s) ∧ W.cell? ⟨w2.heap.size, 1, none⟩ = some (.string t) ∧ W.cell? ⟨w2.heap.size, 2, none⟩ = some (.bool b) ∧ W.cell? ⟨w2.heap.size, 3, none⟩ = some (.int .i64 r) ∧ W.cell? ⟨w2.heap.size, 4, none⟩ = some (.int .i64 g) ∧ W.cell? ⟨w2.heap.size, 5, none⟩ = some (.int .u8 k) ∧ W.cell? ⟨w2.heap.size, 6, none⟩ = some (.int .u8 y) ∧ W.cell? ⟨w2.heap.size, 7, none⟩ = some (.bool c) ∧ W.cell? ⟨w.heap.size, i * 8, none⟩ = some (.string s) ∧ W.cell? ⟨w.heap.size, i * 8 + 1, none⟩ = some (.string t) ∧ W.cell? ⟨w.heap.size, i * 8 + 2, none⟩ = some (.bool b) ∧ W.cell? ⟨w.heap.size, i * 8 + 3, none⟩ = some (.int .i64 r) ∧ W.cell? ⟨w.heap.size, i * 8 + 4, none⟩ = some (.int .i64 g) ∧ W.cell? ⟨w.heap.size, i * 8 + 5, none⟩ = some (.int .u8 k) ∧ W.cell? ⟨w.heap.size, i * 8 + 6, none⟩ = some (.int .u8 y) ∧ W.cell? ⟨w.heap.size, i * 8 + 7, none⟩ = some (.bool c)) wr := ⟨cell_blk hen 0, cell_blk hen 1, cell_blk hen 2, cell_blk hen 3, cell_blk hen 4, cell_blk hen 5, cell_blk hen 6, cell_blk hen 7, (cell_blk hro _).trans hrow.1, (cell_blk hro _).trans hrow.2.1, (cell_blk hro _).trans hrow.2.2.1, (cell_blk hro _).trans hrow.2.2.2.1, (cell_blk hro _).trans hrow.2.2.2.2.1, (cell_blk hro _).trans hrow.2.2.2.2.2.1, (cell_blk hro _).trans hrow.2.2.2.2.2.2.1, (cell_blk hro _).trans hrow.2.2.2.2.2.2.2⟩
          go_wp2
          go_quiet (fail)
          go_wp2
          have hbd := below_drewN hb nq
          have hzd := hbd.size
          replace hS : (fun W : World => W.cell? ⟨w2.heap.size, 0, none⟩ = some (.string s) ∧ W.cell? ⟨w2.heap.size, 1, none⟩ = some (.string t) ∧ W.cell? ⟨w2.heap.size, 2, none⟩ = some (.bool b) ∧ W.cell? ⟨w2.heap.size, 3, none⟩ = some (.int .i64 r) ∧ W.cell? ⟨w2.heap.size, 4, none⟩ = some (.int .i64 g) ∧ W.cell? ⟨w2.heap.size, 5, none⟩ = some (.int .u8 k) ∧ W.cell? ⟨w2.heap.size, 6, none⟩ = some (.int .u8 y) ∧ W.cell? ⟨w2.heap.size, 7, none⟩ = some (.bool c) ∧ W.cell? ⟨w.heap.size, i * 8, none⟩ = some (.string s) ∧ W.cell? ⟨w.heap.size, i * 8 + 1, none⟩ = some (.string t) ∧ W.cell? ⟨w.heap.size, i * 8 + 2, none⟩ = some (.bool b) ∧ W.cell? ⟨w.heap.size, i * 8 + 3, none⟩ = some (.int .i64 r) ∧ W.cell? ⟨w.heap.size, i * 8 + 4, none⟩ = some (.int .i64 g) ∧ W.cell? ⟨w.heap.size, i * 8 + 5, none⟩ = some (.int .u8 k) ∧ W.cell? ⟨w.heap.size, i * 8 + 6, none⟩ = some (.int .u8 y) ∧ W.cell? ⟨w.heap.size, i * 8 + 7, none⟩ = some (.bool c)) (wr.drewN nq) := hS
          dsimp only at hS
          go_region_held3 (fun W => W.cell? ⟨w2.heap.size, 0, none⟩ = some (.string s) ∧ W.cell? ⟨w2.heap.size, 1, none⟩ = some (.string t) ∧ W.cell? ⟨w2.heap.size, 2, none⟩ = some (.bool b) ∧ W.cell? ⟨w2.heap.size, 3, none⟩ = some (.int .i64 r) ∧ W.cell? ⟨w2.heap.size, 4, none⟩ = some (.int .i64 g) ∧ W.cell? ⟨w2.heap.size, 5, none⟩ = some (.int .u8 k) ∧ W.cell? ⟨w2.heap.size, 6, none⟩ = some (.int .u8 y) ∧ W.cell? ⟨w2.heap.size, 7, none⟩ = some (.bool c) ∧ W.cell? ⟨w.heap.size, i * 8, none⟩ = some (.string s) ∧ W.cell? ⟨w.heap.size, i * 8 + 1, none⟩ = some (.string t) ∧ W.cell? ⟨w.heap.size, i * 8 + 2, none⟩ = some (.bool b) ∧ W.cell? ⟨w.heap.size, i * 8 + 3, none⟩ = some (.int .i64 r) ∧ W.cell? ⟨w.heap.size, i * 8 + 4, none⟩ = some (.int .i64 g) ∧ W.cell? ⟨w.heap.size, i * 8 + 5, none⟩ = some (.int .u8 k) ∧ W.cell? ⟨w.heap.size, i * 8 + 6, none⟩ = some (.int .u8 y) ∧ W.cell? ⟨w.heap.size, i * 8 + 7, none⟩ = some (.bool c))
            (exact hS)
            (first
              | (go_at_call 10; refine (same_any _ s t b r g k y c).mono ?_; rintro e w4 ⟨rfl, hb4⟩; replace hb4 : Below (wr.drewN nq).heap.size (wr.drewN nq) w4 := ⟨hb4.os, hb4.tape, hb4.output, hb4.size, hb4.block⟩; replace hS := keep16 hb4 hS; have hb5 := hbd.trans (hb4.mono hzd); have hcs4 := blk_below (w := wr.drewN nq) hcs hb4 (blk_lt hcs); have hro4 := blk_below (w := wr.drewN nq) hro hb4 (blk_lt hro); have hen4 := blk_below (w := wr.drewN nq) hen hb4 (blk_lt hen); have nf4 : w4.frozen? ⟨gn, i, none⟩ = false := frozen_blk hcs4 i; have n4 : w4.cell? ⟨gn, i, none⟩ = some (.string s') := keepc hb4 n0; clear hb4))
          go_wp2
          exact ⟨⟨i + 1, by omega, by go_num, by congr 1; simp, hb5.setCell (by show _ ≤ gn; omega) _, blk_far hro4 (by show w.heap.size ≠ gn; omega) _, blk_far hen4 (by show w2.heap.size ≠ gn; omega) _, cs.setIfInBounds i (.string ⟨#[63]⟩), blk_set hcs4 i _, fun j hj hj' => by rw [Array.getElem?_setIfInBounds_ne (by omega)]; exact hnames j (by omega) hj'⟩, by simp [intOf]; omega⟩
        · have heq' : (s'.toList == name.toList) = false := by simpa using heq
          have hqi : ¬ i = q := fun h => heq (by rw [← hnm, ← h]; exact hn)
          go_wp2
          go_quiet (fail)
          go_wp2
          have hbd := below_drewN hb nq
          refine ⟨⟨q + 1, by omega, by go_num, by congr 1; simp; omega, hbd.setCell (by show _ ≤ gn; omega) _, blk_far (w := wr.drewN nq) hro (by show w.heap.size ≠ gn; omega) _, blk_far (w := wr.drewN nq) hen (by show w2.heap.size ≠ gn; omega) _, cs.setIfInBounds q (.string ⟨#[63]⟩), blk_set (w := wr.drewN nq) hcs q _, fun j hj hj' => by rw [Array.getElem?_setIfInBounds_ne (by omega)]; exact hnames j (by omega) hj'⟩, by simp [intOf]; omega⟩
      · have hl : ¬ (q : Int) < 18 := by omega
        obtain rfl : q = 18 := by omega
        have hlt18 : (i < 18) = True := by simp [hi]
        go_wp2_with fail
        refine (names_any _).mono ?_
        rintro e w5 ⟨v5, rfl, hm5, hb5⟩
        obtain ⟨g5, cap5, cs5, rfl, hg5, hcs5, hn5⟩ := names_block hm5
        obtain ⟨s0, t0, b0, r0, g0, k0, y0, c0, hrow0⟩ := at_row 0 (by omega)
        have a0 : w5.cell? ⟨g5, 0, none⟩ = some (.string s0) := by rw [cell_blk hcs5, hn5 0 (by omega), nm_eq hrow0.1]
        have l0 : w5.cell? ⟨w.heap.size, 0, none⟩ = some (.string s0) := (cell_blk (blk_below hro hb5 (blk_lt hro)) _).trans hrow0.1
        have hb6 := hb.trans (hb5.mono hb.size)
        clear hm5 hb5 hrow0
        go_wp2
        go_quiet (fail)
        go_wp2
        go_ret
        exact ⟨by rfl, below_drewN hb6 _⟩
  · have hz2 : w2.heap.size + 1 = (w2.alloc (.cells zeroEntry 25)).heap.size := by simp
    have hblkx := blk_new w2 (.cells zeroEntry 25)
    have hba := hb3.alloc hb3.size (.cells zeroEntry 25)
    have hkx := blk_alloc hk2 (.cells zeroEntry 25)
    go_wp2_with fail
    refine (names_any _).mono ?_
    rintro e w3 ⟨v, rfl, hm, hb4⟩
    obtain ⟨gn, capn, cs, rfl, hgn, hcs, hnames⟩ := names_block hm
    have hrows := blk_below hkx hb4 (blk_lt hkx)
    have hent := blk_below hblkx hb4 (blk_lt hblkx)
    have hb5 := hba.trans (hb4.mono hba.size)
    have hg2 : w2.heap.size + 1 ≤ gn := by simpa using hgn
    have hw2 := hb3.size
    clear hm hb4 hkx hblkx hba hk2
    go_wp2
    go_loopw [12, 11] (fun iv isv wr => ∃ q : Nat, q ≤ 18 ∧ iv = .int .i64 q ∧ isv = .bool false ∧ Below w.heap.size w wr ∧ wr.heap[w.heap.size]? = some (.cells allCells 30)
        ∧ wr.heap[w2.heap.size]? = some (.cells zeroEntry 25)
        ∧ ∃ cs : Array Value, wr.heap[gn]? = some (.cells cs 9) ∧ ∀ j, q ≤ j → j < 18 → cs[j]? = some (.string (nm j))) (fun iv _ _ => 18 - (intOf iv).toNat)
    case atStart => exact ⟨0, by omega, rfl, rfl, hb5, hrows, hent, cs, hcs, fun j _ hj => hnames j hj⟩
    case round =>
      obtain ⟨q, hq, rfl, rfl, hb, hro, hen, cs, hcs, hnames⟩ := hrel
      have ha0 : (0 : Int) ≤ q := by omega
      by_cases hlt : q < 18
      · obtain ⟨s', t', b', r', g', k', y', c', hrow'⟩ := at_row q hlt
        have hnm := nm_eq hrow'.1
        have hl : (q : Int) < 18 := by omega
        have d0 : wr.cell? ⟨w.heap.size, q * 8, none⟩ = some (.string s') := (cell_blk hro _).trans hrow'.1
        have n0 : wr.cell? ⟨gn, q, none⟩ = some (.string s') := by rw [cell_blk hcs, hnames q (Nat.le_refl _) hlt, hnm]
        have nf : wr.frozen? ⟨gn, q, none⟩ = false := frozen_blk hcs q
        have heq' : (s'.toList == name.toList) = false := by have := hno q hlt; rw [hnm] at this; simpa using this
        go_wp2
        go_quiet (fail)
        go_wp2
        have hbd := below_drewN hb nq
        refine ⟨⟨q + 1, by omega, by go_num, rfl, hbd.setCell (by show _ ≤ gn; omega) _, blk_far (w := wr.drewN nq) hro (by show w.heap.size ≠ gn; omega) _, blk_far (w := wr.drewN nq) hen (by show w2.heap.size ≠ gn; omega) _, cs.setIfInBounds q (.string ⟨#[63]⟩), blk_set (w := wr.drewN nq) hcs q _, fun j hj hj' => by rw [Array.getElem?_setIfInBounds_ne (by omega)]; exact hnames j (by omega) hj'⟩, by simp [intOf]; omega⟩
      · have hl : ¬ (q : Int) < 18 := by omega
        obtain rfl : q = 18 := by omega
        go_wp2_with fail
        refine (names_any _).mono ?_
        rintro e w5 ⟨v5, rfl, hm5, hb5⟩
        obtain ⟨g5, cap5, cs5, rfl, hg5, hcs5, hn5⟩ := names_block hm5
        obtain ⟨s0, t0, b0, r0, g0, k0, y0, c0, hrow0⟩ := at_row 0 (by omega)
        have a0 : w5.cell? ⟨g5, 0, none⟩ = some (.string s0) := by rw [cell_blk hcs5, hn5 0 (by omega), nm_eq hrow0.1]
        have l0 : w5.cell? ⟨w.heap.size, 0, none⟩ = some (.string s0) := (cell_blk (blk_below hro hb5 (blk_lt hro)) _).trans hrow0.1
        have hen5 := blk_below hen hb5 (blk_lt hen)
        have x0 : w5.cell? ⟨w2.heap.size, 0, none⟩ = some (.string ⟨#[]⟩) := cell_blk hen5 0
        have x1 : w5.cell? ⟨w2.heap.size, 1, none⟩ = some (.string ⟨#[]⟩) := cell_blk hen5 1
        have x2 : w5.cell? ⟨w2.heap.size, 2, none⟩ = some (.bool false) := cell_blk hen5 2
        have x3 : w5.cell? ⟨w2.heap.size, 3, none⟩ = some (.int .i64 0) := cell_blk hen5 3
        have x4 : w5.cell? ⟨w2.heap.size, 4, none⟩ = some (.int .i64 0) := cell_blk hen5 4
        have x5 : w5.cell? ⟨w2.heap.size, 5, none⟩ = some (.int .u8 0) := cell_blk hen5 5
        have x6 : w5.cell? ⟨w2.heap.size, 6, none⟩ = some (.int .u8 0) := cell_blk hen5 6
        have x7 : w5.cell? ⟨w2.heap.size, 7, none⟩ = some (.bool false) := cell_blk hen5 7
        have hb6 := hb.trans (hb5.mono hb.size)
        clear hm5 hb5 hrow0
        go_wp2
        go_quiet (fail)
        go_wp2
        go_ret
        exact ⟨by rfl, below_drewN hb6 _⟩

set_option maxRecDepth 100000 in
set_option maxHeartbeats 2000000 in
theorem corpusFind_big (name : ByteArray) (n : Int) (w : World) (h : ¬ 100 < (name.size : Int)) (hn0 : 0 ≤ n) (hn1 : ¬ n < 18) :
    Calls Try.prog 5 #[.string name, .int .i64 n, .bool true] w fun e w' => e = .returned (.bool true) ∧ Below w.heap.size w w' := by
  have hs : name.size ≤ maxLen := by unfold maxLen; omega
  go_enter Try.func5, Try.ntmps5
  go_wp2_with fail
  refine (rows_any _).mono ?_
  rintro e w1 ⟨rfl, hw1⟩
  have hb1 : Below w.heap.size w w1 := by rw [hw1]; exact (Below.refl _ _).alloc (Nat.le_refl _) _
  have hk : w1.heap[w.heap.size]? = some (.cells allCells 30) := by rw [hw1, rows_same]; exact blk_new _ _
  have hz1 := hb1.size
  clear hw1
  go_wp2_with fail
  refine (find_any name hs _).mono ?_
  rintro e w2 ⟨v, rfl, hv, hb2⟩
  have hk2 := blk_below hk hb2 (blk_lt hk)
  have hb3 := hb1.trans (hb2.mono hz1)
  clear hk hb2
  rcases hv with ⟨i, s, t, b, r, g, k, y, c, hi, hn, hrow, rfl⟩ | ⟨hno, rfl⟩
  · have hz2 : w2.heap.size + 1 = (w2.alloc (.cells #[.string s, .string t, .bool b, .int .i64 r, .int .i64 g, .int .u8 k, .int .u8 y, .bool c] 25)).heap.size := by simp
    have hblkx := blk_new w2 (.cells #[.string s, .string t, .bool b, .int .i64 r, .int .i64 g, .int .u8 k, .int .u8 y, .bool c] 25)
    have hba := hb3.alloc hb3.size (.cells #[.string s, .string t, .bool b, .int .i64 r, .int .i64 g, .int .u8 k, .int .u8 y, .bool c] 25)
    have hkx := blk_alloc hk2 (.cells #[.string s, .string t, .bool b, .int .i64 r, .int .i64 g, .int .u8 k, .int .u8 y, .bool c] 25)
    go_wp2_with fail
    refine (names_any _).mono ?_
    rintro e w3 ⟨v, rfl, hm, hb4⟩
    obtain ⟨gn, capn, cs, rfl, hgn, hcs, hnames⟩ := names_block hm
    have hrows := blk_below hkx hb4 (blk_lt hkx)
    have hent := blk_below hblkx hb4 (blk_lt hblkx)
    have hb5 := hba.trans (hb4.mono hba.size)
    have hg2 : w2.heap.size + 1 ≤ gn := by simpa using hgn
    have hw2 := hb3.size
    clear hm hb4 hkx hblkx hba hk2
    go_wp2
    go_loopw [12, 11] (fun iv isv wr => ∃ q : Nat, q ≤ 18 ∧ iv = .int .i64 q ∧ isv = .bool (decide (i < q)) ∧ Below w.heap.size w wr ∧ wr.heap[w.heap.size]? = some (.cells allCells 30)
        ∧ wr.heap[w2.heap.size]? = some (.cells #[.string s, .string t, .bool b, .int .i64 r, .int .i64 g, .int .u8 k, .int .u8 y, .bool c] 25)
        ∧ ∃ cs : Array Value, wr.heap[gn]? = some (.cells cs 9) ∧ ∀ j, q ≤ j → j < 18 → cs[j]? = some (.string (nm j))) (fun iv _ _ => 18 - (intOf iv).toNat)
    case atStart => exact ⟨0, by omega, rfl, by simp, hb5, hrows, hent, cs, hcs, fun j _ hj => hnames j hj⟩
    case round =>
      obtain ⟨q, hq, rfl, rfl, hb, hro, hen, cs, hcs, hnames⟩ := hrel
      have ha0 : (0 : Int) ≤ q := by omega
      by_cases hlt : q < 18
      · obtain ⟨s', t', b', r', g', k', y', c', hrow'⟩ := at_row q hlt
        have hnm := nm_eq hrow'.1
        have hl : (q : Int) < 18 := by omega
        have d0 : wr.cell? ⟨w.heap.size, q * 8, none⟩ = some (.string s') := (cell_blk hro _).trans hrow'.1
        have n0 : wr.cell? ⟨gn, q, none⟩ = some (.string s') := by rw [cell_blk hcs, hnames q (Nat.le_refl _) hlt, hnm]
        have nf : wr.frozen? ⟨gn, q, none⟩ = false := frozen_blk hcs q
        by_cases heq : s'.toList = name.toList
        · have heq' : (s'.toList == name.toList) = true := by simpa using heq
          obtain rfl : i = q := nm_inj hi hlt (by rw [hn, hnm, heq])
          have hS : (fun W : World => W.cell? ⟨w2.heap.size, 0, none⟩ = some (.string s) ∧ W.cell? ⟨w2.heap.size, 1, none⟩ = some (.string t) ∧ W.cell? ⟨w2.heap.size, 2, none⟩ = some (.bool b) ∧ W.cell? ⟨w2.heap.size, 3, none⟩ = some (.int .i64 r) ∧ W.cell? ⟨w2.heap.size, 4, none⟩ = some (.int .i64 g) ∧ W.cell? ⟨w2.heap.size, 5, none⟩ = some (.int .u8 k) ∧ W.cell? ⟨w2.heap.size, 6, none⟩ = some (.int .u8 y) ∧ W.cell? ⟨w2.heap.size, 7, none⟩ = some (.bool c) ∧ W.cell? ⟨w.heap.size, i * 8, none⟩ = some (.string s) ∧ W.cell? ⟨w.heap.size, i * 8 + 1, none⟩ = some (.string t) ∧ W.cell? ⟨w.heap.size, i * 8 + 2, none⟩ = some (.bool b) ∧ W.cell? ⟨w.heap.size, i * 8 + 3, none⟩ = some (.int .i64 r) ∧ W.cell? ⟨w.heap.size, i * 8 + 4, none⟩ = some (.int .i64 g) ∧ W.cell? ⟨w.heap.size, i * 8 + 5, none⟩ = some (.int .u8 k) ∧ W.cell? ⟨w.heap.size, i * 8 + 6, none⟩ = some (.int .u8 y) ∧ W.cell? ⟨w.heap.size, i * 8 + 7, none⟩ = some (.bool c)) wr := ⟨cell_blk hen 0, cell_blk hen 1, cell_blk hen 2, cell_blk hen 3, cell_blk hen 4, cell_blk hen 5, cell_blk hen 6, cell_blk hen 7, (cell_blk hro _).trans hrow.1, (cell_blk hro _).trans hrow.2.1, (cell_blk hro _).trans hrow.2.2.1, (cell_blk hro _).trans hrow.2.2.2.1, (cell_blk hro _).trans hrow.2.2.2.2.1, (cell_blk hro _).trans hrow.2.2.2.2.2.1, (cell_blk hro _).trans hrow.2.2.2.2.2.2.1, (cell_blk hro _).trans hrow.2.2.2.2.2.2.2⟩
          go_wp2
          go_quiet (fail)
          go_wp2
          have hbd := below_drewN hb nq
          have hzd := hbd.size
          replace hS : (fun W : World => W.cell? ⟨w2.heap.size, 0, none⟩ = some (.string s) ∧ W.cell? ⟨w2.heap.size, 1, none⟩ = some (.string t) ∧ W.cell? ⟨w2.heap.size, 2, none⟩ = some (.bool b) ∧ W.cell? ⟨w2.heap.size, 3, none⟩ = some (.int .i64 r) ∧ W.cell? ⟨w2.heap.size, 4, none⟩ = some (.int .i64 g) ∧ W.cell? ⟨w2.heap.size, 5, none⟩ = some (.int .u8 k) ∧ W.cell? ⟨w2.heap.size, 6, none⟩ = some (.int .u8 y) ∧ W.cell? ⟨w2.heap.size, 7, none⟩ = some (.bool c) ∧ W.cell? ⟨w.heap.size, i * 8, none⟩ = some (.string s) ∧ W.cell? ⟨w.heap.size, i * 8 + 1, none⟩ = some (.string t) ∧ W.cell? ⟨w.heap.size, i * 8 + 2, none⟩ = some (.bool b) ∧ W.cell? ⟨w.heap.size, i * 8 + 3, none⟩ = some (.int .i64 r) ∧ W.cell? ⟨w.heap.size, i * 8 + 4, none⟩ = some (.int .i64 g) ∧ W.cell? ⟨w.heap.size, i * 8 + 5, none⟩ = some (.int .u8 k) ∧ W.cell? ⟨w.heap.size, i * 8 + 6, none⟩ = some (.int .u8 y) ∧ W.cell? ⟨w.heap.size, i * 8 + 7, none⟩ = some (.bool c)) (wr.drewN nq) := hS
          dsimp only at hS
          go_region_held3 (fun W => W.cell? ⟨w2.heap.size, 0, none⟩ = some (.string s) ∧ W.cell? ⟨w2.heap.size, 1, none⟩ = some (.string t) ∧ W.cell? ⟨w2.heap.size, 2, none⟩ = some (.bool b) ∧ W.cell? ⟨w2.heap.size, 3, none⟩ = some (.int .i64 r) ∧ W.cell? ⟨w2.heap.size, 4, none⟩ = some (.int .i64 g) ∧ W.cell? ⟨w2.heap.size, 5, none⟩ = some (.int .u8 k) ∧ W.cell? ⟨w2.heap.size, 6, none⟩ = some (.int .u8 y) ∧ W.cell? ⟨w2.heap.size, 7, none⟩ = some (.bool c) ∧ W.cell? ⟨w.heap.size, i * 8, none⟩ = some (.string s) ∧ W.cell? ⟨w.heap.size, i * 8 + 1, none⟩ = some (.string t) ∧ W.cell? ⟨w.heap.size, i * 8 + 2, none⟩ = some (.bool b) ∧ W.cell? ⟨w.heap.size, i * 8 + 3, none⟩ = some (.int .i64 r) ∧ W.cell? ⟨w.heap.size, i * 8 + 4, none⟩ = some (.int .i64 g) ∧ W.cell? ⟨w.heap.size, i * 8 + 5, none⟩ = some (.int .u8 k) ∧ W.cell? ⟨w.heap.size, i * 8 + 6, none⟩ = some (.int .u8 y) ∧ W.cell? ⟨w.heap.size, i * 8 + 7, none⟩ = some (.bool c))
            (exact hS)
            (first
              | (go_at_call 10; refine (same_any _ s t b r g k y c).mono ?_; rintro e w4 ⟨rfl, hb4⟩; replace hb4 : Below (wr.drewN nq).heap.size (wr.drewN nq) w4 := ⟨hb4.os, hb4.tape, hb4.output, hb4.size, hb4.block⟩; replace hS := keep16 hb4 hS; have hb5 := hbd.trans (hb4.mono hzd); have hcs4 := blk_below (w := wr.drewN nq) hcs hb4 (blk_lt hcs); have hro4 := blk_below (w := wr.drewN nq) hro hb4 (blk_lt hro); have hen4 := blk_below (w := wr.drewN nq) hen hb4 (blk_lt hen); have nf4 : w4.frozen? ⟨gn, i, none⟩ = false := frozen_blk hcs4 i; have n4 : w4.cell? ⟨gn, i, none⟩ = some (.string s') := keepc hb4 n0; clear hb4))
          go_wp2
          exact ⟨⟨i + 1, by omega, by go_num, by congr 1; simp, hb5.setCell (by show _ ≤ gn; omega) _, blk_far hro4 (by show w.heap.size ≠ gn; omega) _, blk_far hen4 (by show w2.heap.size ≠ gn; omega) _, cs.setIfInBounds i (.string ⟨#[63]⟩), blk_set hcs4 i _, fun j hj hj' => by rw [Array.getElem?_setIfInBounds_ne (by omega)]; exact hnames j (by omega) hj'⟩, by simp [intOf]; omega⟩
        · have heq' : (s'.toList == name.toList) = false := by simpa using heq
          have hqi : ¬ i = q := fun h => heq (by rw [← hnm, ← h]; exact hn)
          go_wp2
          go_quiet (fail)
          go_wp2
          have hbd := below_drewN hb nq
          refine ⟨⟨q + 1, by omega, by go_num, by congr 1; simp; omega, hbd.setCell (by show _ ≤ gn; omega) _, blk_far (w := wr.drewN nq) hro (by show w.heap.size ≠ gn; omega) _, blk_far (w := wr.drewN nq) hen (by show w2.heap.size ≠ gn; omega) _, cs.setIfInBounds q (.string ⟨#[63]⟩), blk_set (w := wr.drewN nq) hcs q _, fun j hj hj' => by rw [Array.getElem?_setIfInBounds_ne (by omega)]; exact hnames j (by omega) hj'⟩, by simp [intOf]; omega⟩
      · have hl : ¬ (q : Int) < 18 := by omega
        obtain rfl : q = 18 := by omega
        have hlt18 : (i < 18) = True := by simp [hi]
        go_wp2_with fail
        refine (names_any _).mono ?_
        rintro e w5 ⟨v5, rfl, hm5, hb5⟩
        obtain ⟨g5, cap5, cs5, rfl, hg5, hcs5, hn5⟩ := names_block hm5
        obtain ⟨s0, t0, b0, r0, g0, k0, y0, c0, hrow0⟩ := at_row 0 (by omega)
        have a0 : w5.cell? ⟨g5, 0, none⟩ = some (.string s0) := by rw [cell_blk hcs5, hn5 0 (by omega), nm_eq hrow0.1]
        have l0 : w5.cell? ⟨w.heap.size, 0, none⟩ = some (.string s0) := (cell_blk (blk_below hro hb5 (blk_lt hro)) _).trans hrow0.1
        have hb6 := hb.trans (hb5.mono hb.size)
        clear hm5 hb5 hrow0
        go_wp2
        go_quiet (fail)
        go_wp2
        go_ret
        exact ⟨by rfl, below_drewN hb6 _⟩
  · have hz2 : w2.heap.size + 1 = (w2.alloc (.cells zeroEntry 25)).heap.size := by simp
    have hblkx := blk_new w2 (.cells zeroEntry 25)
    have hba := hb3.alloc hb3.size (.cells zeroEntry 25)
    have hkx := blk_alloc hk2 (.cells zeroEntry 25)
    go_wp2_with fail
    refine (names_any _).mono ?_
    rintro e w3 ⟨v, rfl, hm, hb4⟩
    obtain ⟨gn, capn, cs, rfl, hgn, hcs, hnames⟩ := names_block hm
    have hrows := blk_below hkx hb4 (blk_lt hkx)
    have hent := blk_below hblkx hb4 (blk_lt hblkx)
    have hb5 := hba.trans (hb4.mono hba.size)
    have hg2 : w2.heap.size + 1 ≤ gn := by simpa using hgn
    have hw2 := hb3.size
    clear hm hb4 hkx hblkx hba hk2
    go_wp2
    go_loopw [12, 11] (fun iv isv wr => ∃ q : Nat, q ≤ 18 ∧ iv = .int .i64 q ∧ isv = .bool false ∧ Below w.heap.size w wr ∧ wr.heap[w.heap.size]? = some (.cells allCells 30)
        ∧ wr.heap[w2.heap.size]? = some (.cells zeroEntry 25)
        ∧ ∃ cs : Array Value, wr.heap[gn]? = some (.cells cs 9) ∧ ∀ j, q ≤ j → j < 18 → cs[j]? = some (.string (nm j))) (fun iv _ _ => 18 - (intOf iv).toNat)
    case atStart => exact ⟨0, by omega, rfl, rfl, hb5, hrows, hent, cs, hcs, fun j _ hj => hnames j hj⟩
    case round =>
      obtain ⟨q, hq, rfl, rfl, hb, hro, hen, cs, hcs, hnames⟩ := hrel
      have ha0 : (0 : Int) ≤ q := by omega
      by_cases hlt : q < 18
      · obtain ⟨s', t', b', r', g', k', y', c', hrow'⟩ := at_row q hlt
        have hnm := nm_eq hrow'.1
        have hl : (q : Int) < 18 := by omega
        have d0 : wr.cell? ⟨w.heap.size, q * 8, none⟩ = some (.string s') := (cell_blk hro _).trans hrow'.1
        have n0 : wr.cell? ⟨gn, q, none⟩ = some (.string s') := by rw [cell_blk hcs, hnames q (Nat.le_refl _) hlt, hnm]
        have nf : wr.frozen? ⟨gn, q, none⟩ = false := frozen_blk hcs q
        have heq' : (s'.toList == name.toList) = false := by have := hno q hlt; rw [hnm] at this; simpa using this
        go_wp2
        go_quiet (fail)
        go_wp2
        have hbd := below_drewN hb nq
        refine ⟨⟨q + 1, by omega, by go_num, rfl, hbd.setCell (by show _ ≤ gn; omega) _, blk_far (w := wr.drewN nq) hro (by show w.heap.size ≠ gn; omega) _, blk_far (w := wr.drewN nq) hen (by show w2.heap.size ≠ gn; omega) _, cs.setIfInBounds q (.string ⟨#[63]⟩), blk_set (w := wr.drewN nq) hcs q _, fun j hj hj' => by rw [Array.getElem?_setIfInBounds_ne (by omega)]; exact hnames j (by omega) hj'⟩, by simp [intOf]; omega⟩
      · have hl : ¬ (q : Int) < 18 := by omega
        obtain rfl : q = 18 := by omega
        go_wp2_with fail
        refine (names_any _).mono ?_
        rintro e w5 ⟨v5, rfl, hm5, hb5⟩
        obtain ⟨g5, cap5, cs5, rfl, hg5, hcs5, hn5⟩ := names_block hm5
        obtain ⟨s0, t0, b0, r0, g0, k0, y0, c0, hrow0⟩ := at_row 0 (by omega)
        have a0 : w5.cell? ⟨g5, 0, none⟩ = some (.string s0) := by rw [cell_blk hcs5, hn5 0 (by omega), nm_eq hrow0.1]
        have l0 : w5.cell? ⟨w.heap.size, 0, none⟩ = some (.string s0) := (cell_blk (blk_below hro hb5 (blk_lt hro)) _).trans hrow0.1
        have hen5 := blk_below hen hb5 (blk_lt hen)
        have x0 : w5.cell? ⟨w2.heap.size, 0, none⟩ = some (.string ⟨#[]⟩) := cell_blk hen5 0
        have x1 : w5.cell? ⟨w2.heap.size, 1, none⟩ = some (.string ⟨#[]⟩) := cell_blk hen5 1
        have x2 : w5.cell? ⟨w2.heap.size, 2, none⟩ = some (.bool false) := cell_blk hen5 2
        have x3 : w5.cell? ⟨w2.heap.size, 3, none⟩ = some (.int .i64 0) := cell_blk hen5 3
        have x4 : w5.cell? ⟨w2.heap.size, 4, none⟩ = some (.int .i64 0) := cell_blk hen5 4
        have x5 : w5.cell? ⟨w2.heap.size, 5, none⟩ = some (.int .u8 0) := cell_blk hen5 5
        have x6 : w5.cell? ⟨w2.heap.size, 6, none⟩ = some (.int .u8 0) := cell_blk hen5 6
        have x7 : w5.cell? ⟨w2.heap.size, 7, none⟩ = some (.bool false) := cell_blk hen5 7
        have hb6 := hb.trans (hb5.mono hb.size)
        clear hm5 hb5 hrow0
        go_wp2
        go_quiet (fail)
        go_wp2
        go_ret
        exact ⟨by rfl, below_drewN hb6 _⟩

set_option maxRecDepth 100000 in
set_option maxHeartbeats 2000000 in
theorem corpusFind_of (name : ByteArray) (m : Nat) (w : World) (h : ¬ 100 < (name.size : Int)) (hm18 : m < 18) :
    Calls Try.prog 5 #[.string name, .int .i64 m, .bool true] w fun e w' => e = .returned (.bool true) ∧ Below w.heap.size w w' := by
  have hn0 : (0 : Int) ≤ m := by omega
  have hn1 : (m : Int) < 18 := by omega
  obtain ⟨s9, t9, b9, r9, g9, k9, y9, c9, hrow9⟩ := at_row m hm18
  have hs9 : s9.size ≤ maxLen := by
    have := of_decide_eq_true (List.all_eq_true.1 nm_small m (List.mem_range.2 hm18))
    rw [nm_eq hrow9.1] at this
    unfold maxLen; omega
  have Hrow9 := Lib.hid hrow9.1
  clear hrow9
  go_enter Try.func5, Try.ntmps5
  go_wp2_with fail
  refine (rows_any _).mono ?_
  rintro e w1 ⟨rfl, hw1⟩
  have hb1 : Below w.heap.size w w1 := by rw [hw1]; exact (Below.refl _ _).alloc (Nat.le_refl _) _
  have hk : w1.heap[w.heap.size]? = some (.cells allCells 30) := by rw [hw1, rows_same]; exact blk_new _ _
  have hz1 := hb1.size
  have d9 : w1.cell? ⟨w.heap.size, m * 8, none⟩ = some (.string s9) := (cell_blk hk _).trans Hrow9.out
  clear hw1
  go_wp2_with fail
  refine (find_any s9 hs9 _).mono ?_
  rintro e w2 ⟨v, rfl, hv, hb2⟩
  have hk2 := blk_below hk hb2 (blk_lt hk)
  have hb3 := hb1.trans (hb2.mono hz1)
  clear hk hb2 d9
  rcases hv with ⟨i, s, t, b, r, g, k, y, c, hi, hn, hrow, rfl⟩ | ⟨hno, rfl⟩
  · have hz2 : w2.heap.size + 1 = (w2.alloc (.cells #[.string s, .string t, .bool b, .int .i64 r, .int .i64 g, .int .u8 k, .int .u8 y, .bool c] 25)).heap.size := by simp
    have hblkx := blk_new w2 (.cells #[.string s, .string t, .bool b, .int .i64 r, .int .i64 g, .int .u8 k, .int .u8 y, .bool c] 25)
    have hba := hb3.alloc hb3.size (.cells #[.string s, .string t, .bool b, .int .i64 r, .int .i64 g, .int .u8 k, .int .u8 y, .bool c] 25)
    have hkx := blk_alloc hk2 (.cells #[.string s, .string t, .bool b, .int .i64 r, .int .i64 g, .int .u8 k, .int .u8 y, .bool c] 25)
    go_wp2_with fail
    refine (names_any _).mono ?_
    rintro e w3 ⟨v, rfl, hm, hb4⟩
    obtain ⟨gn, capn, cs, rfl, hgn, hcs, hnames⟩ := names_block hm
    have hrows := blk_below hkx hb4 (blk_lt hkx)
    have hent := blk_below hblkx hb4 (blk_lt hblkx)
    have hb5 := hba.trans (hb4.mono hba.size)
    have hg2 : w2.heap.size + 1 ≤ gn := by simpa using hgn
    have hw2 := hb3.size
    clear hm hb4 hkx hblkx hba hk2
    go_wp2
    go_loopw [12, 11] (fun iv isv wr => ∃ q : Nat, q ≤ 18 ∧ iv = .int .i64 q ∧ isv = .bool (decide (i < q)) ∧ Below w.heap.size w wr ∧ wr.heap[w.heap.size]? = some (.cells allCells 30)
        ∧ wr.heap[w2.heap.size]? = some (.cells #[.string s, .string t, .bool b, .int .i64 r, .int .i64 g, .int .u8 k, .int .u8 y, .bool c] 25)
        ∧ ∃ cs : Array Value, wr.heap[gn]? = some (.cells cs 9) ∧ ∀ j, q ≤ j → j < 18 → cs[j]? = some (.string (nm j))) (fun iv _ _ => 18 - (intOf iv).toNat)
    case atStart => exact ⟨0, by omega, rfl, by simp, hb5, hrows, hent, cs, hcs, fun j _ hj => hnames j hj⟩
    case round =>
      obtain ⟨q, hq, rfl, rfl, hb, hro, hen, cs, hcs, hnames⟩ := hrel
      have ha0 : (0 : Int) ≤ q := by omega
      by_cases hlt : q < 18
      · obtain ⟨s', t', b', r', g', k', y', c', hrow'⟩ := at_row q hlt
        have hnm := nm_eq hrow'.1
        have hl : (q : Int) < 18 := by omega
        have d0 : wr.cell? ⟨w.heap.size, q * 8, none⟩ = some (.string s') := (cell_blk hro _).trans hrow'.1
        have n0 : wr.cell? ⟨gn, q, none⟩ = some (.string s') := by rw [cell_blk hcs, hnames q (Nat.le_refl _) hlt, hnm]
        have nf : wr.frozen? ⟨gn, q, none⟩ = false := frozen_blk hcs q
        by_cases heq : s'.toList = s9.toList
        · have heq' : (s'.toList == s9.toList) = true := by simpa using heq
          obtain rfl : i = q := nm_inj hi hlt (by rw [hn, hnm, heq])
          have hS : (fun W : World => W.cell? ⟨w2.heap.size, 0, none⟩ = some (.string s) ∧ W.cell? ⟨w2.heap.size, 1, none⟩ = some (.string t) ∧ W.cell? ⟨w2.heap.size, 2, none⟩ = some (.bool b) ∧ W.cell? ⟨w2.heap.size, 3, none⟩ = some (.int .i64 r) ∧ W.cell? ⟨w2.heap.size, 4, none⟩ = some (.int .i64 g) ∧ W.cell? ⟨w2.heap.size, 5, none⟩ = some (.int .u8 k) ∧ W.cell? ⟨w2.heap.size, 6, none⟩ = some (.int .u8 y) ∧ W.cell? ⟨w2.heap.size, 7, none⟩ = some (.bool c) ∧ W.cell? ⟨w.heap.size, i * 8, none⟩ = some (.string s) ∧ W.cell? ⟨w.heap.size, i * 8 + 1, none⟩ = some (.string t) ∧ W.cell? ⟨w.heap.size, i * 8 + 2, none⟩ = some (.bool b) ∧ W.cell? ⟨w.heap.size, i * 8 + 3, none⟩ = some (.int .i64 r) ∧ W.cell? ⟨w.heap.size, i * 8 + 4, none⟩ = some (.int .i64 g) ∧ W.cell? ⟨w.heap.size, i * 8 + 5, none⟩ = some (.int .u8 k) ∧ W.cell? ⟨w.heap.size, i * 8 + 6, none⟩ = some (.int .u8 y) ∧ W.cell? ⟨w.heap.size, i * 8 + 7, none⟩ = some (.bool c)) wr := ⟨cell_blk hen 0, cell_blk hen 1, cell_blk hen 2, cell_blk hen 3, cell_blk hen 4, cell_blk hen 5, cell_blk hen 6, cell_blk hen 7, (cell_blk hro _).trans hrow.1, (cell_blk hro _).trans hrow.2.1, (cell_blk hro _).trans hrow.2.2.1, (cell_blk hro _).trans hrow.2.2.2.1, (cell_blk hro _).trans hrow.2.2.2.2.1, (cell_blk hro _).trans hrow.2.2.2.2.2.1, (cell_blk hro _).trans hrow.2.2.2.2.2.2.1, (cell_blk hro _).trans hrow.2.2.2.2.2.2.2⟩
          go_wp2
          go_quiet (fail)
          go_wp2
          have hbd := below_drewN hb nq
          have hzd := hbd.size
          replace hS : (fun W : World => W.cell? ⟨w2.heap.size, 0, none⟩ = some (.string s) ∧ W.cell? ⟨w2.heap.size, 1, none⟩ = some (.string t) ∧ W.cell? ⟨w2.heap.size, 2, none⟩ = some (.bool b) ∧ W.cell? ⟨w2.heap.size, 3, none⟩ = some (.int .i64 r) ∧ W.cell? ⟨w2.heap.size, 4, none⟩ = some (.int .i64 g) ∧ W.cell? ⟨w2.heap.size, 5, none⟩ = some (.int .u8 k) ∧ W.cell? ⟨w2.heap.size, 6, none⟩ = some (.int .u8 y) ∧ W.cell? ⟨w2.heap.size, 7, none⟩ = some (.bool c) ∧ W.cell? ⟨w.heap.size, i * 8, none⟩ = some (.string s) ∧ W.cell? ⟨w.heap.size, i * 8 + 1, none⟩ = some (.string t) ∧ W.cell? ⟨w.heap.size, i * 8 + 2, none⟩ = some (.bool b) ∧ W.cell? ⟨w.heap.size, i * 8 + 3, none⟩ = some (.int .i64 r) ∧ W.cell? ⟨w.heap.size, i * 8 + 4, none⟩ = some (.int .i64 g) ∧ W.cell? ⟨w.heap.size, i * 8 + 5, none⟩ = some (.int .u8 k) ∧ W.cell? ⟨w.heap.size, i * 8 + 6, none⟩ = some (.int .u8 y) ∧ W.cell? ⟨w.heap.size, i * 8 + 7, none⟩ = some (.bool c)) (wr.drewN nq) := hS
          dsimp only at hS
          go_region_held3 (fun W => W.cell? ⟨w2.heap.size, 0, none⟩ = some (.string s) ∧ W.cell? ⟨w2.heap.size, 1, none⟩ = some (.string t) ∧ W.cell? ⟨w2.heap.size, 2, none⟩ = some (.bool b) ∧ W.cell? ⟨w2.heap.size, 3, none⟩ = some (.int .i64 r) ∧ W.cell? ⟨w2.heap.size, 4, none⟩ = some (.int .i64 g) ∧ W.cell? ⟨w2.heap.size, 5, none⟩ = some (.int .u8 k) ∧ W.cell? ⟨w2.heap.size, 6, none⟩ = some (.int .u8 y) ∧ W.cell? ⟨w2.heap.size, 7, none⟩ = some (.bool c) ∧ W.cell? ⟨w.heap.size, i * 8, none⟩ = some (.string s) ∧ W.cell? ⟨w.heap.size, i * 8 + 1, none⟩ = some (.string t) ∧ W.cell? ⟨w.heap.size, i * 8 + 2, none⟩ = some (.bool b) ∧ W.cell? ⟨w.heap.size, i * 8 + 3, none⟩ = some (.int .i64 r) ∧ W.cell? ⟨w.heap.size, i * 8 + 4, none⟩ = some (.int .i64 g) ∧ W.cell? ⟨w.heap.size, i * 8 + 5, none⟩ = some (.int .u8 k) ∧ W.cell? ⟨w.heap.size, i * 8 + 6, none⟩ = some (.int .u8 y) ∧ W.cell? ⟨w.heap.size, i * 8 + 7, none⟩ = some (.bool c))
            (exact hS)
            (first
              | (go_at_call 10; refine (same_any _ s t b r g k y c).mono ?_; rintro e w4 ⟨rfl, hb4⟩; replace hb4 : Below (wr.drewN nq).heap.size (wr.drewN nq) w4 := ⟨hb4.os, hb4.tape, hb4.output, hb4.size, hb4.block⟩; replace hS := keep16 hb4 hS; have hb5 := hbd.trans (hb4.mono hzd); have hcs4 := blk_below (w := wr.drewN nq) hcs hb4 (blk_lt hcs); have hro4 := blk_below (w := wr.drewN nq) hro hb4 (blk_lt hro); have hen4 := blk_below (w := wr.drewN nq) hen hb4 (blk_lt hen); have nf4 : w4.frozen? ⟨gn, i, none⟩ = false := frozen_blk hcs4 i; have n4 : w4.cell? ⟨gn, i, none⟩ = some (.string s') := keepc hb4 n0; clear hb4))
          go_wp2
          exact ⟨⟨i + 1, by omega, by go_num, by congr 1; simp, hb5.setCell (by show _ ≤ gn; omega) _, blk_far hro4 (by show w.heap.size ≠ gn; omega) _, blk_far hen4 (by show w2.heap.size ≠ gn; omega) _, cs.setIfInBounds i (.string ⟨#[63]⟩), blk_set hcs4 i _, fun j hj hj' => by rw [Array.getElem?_setIfInBounds_ne (by omega)]; exact hnames j (by omega) hj'⟩, by simp [intOf]; omega⟩
        · have heq' : (s'.toList == s9.toList) = false := by simpa using heq
          have hqi : ¬ i = q := fun h => heq (by rw [← hnm, ← h]; exact hn)
          go_wp2
          go_quiet (fail)
          go_wp2
          have hbd := below_drewN hb nq
          refine ⟨⟨q + 1, by omega, by go_num, by congr 1; simp; omega, hbd.setCell (by show _ ≤ gn; omega) _, blk_far (w := wr.drewN nq) hro (by show w.heap.size ≠ gn; omega) _, blk_far (w := wr.drewN nq) hen (by show w2.heap.size ≠ gn; omega) _, cs.setIfInBounds q (.string ⟨#[63]⟩), blk_set (w := wr.drewN nq) hcs q _, fun j hj hj' => by rw [Array.getElem?_setIfInBounds_ne (by omega)]; exact hnames j (by omega) hj'⟩, by simp [intOf]; omega⟩
      · have hl : ¬ (q : Int) < 18 := by omega
        obtain rfl : q = 18 := by omega
        have hlt18 : (i < 18) = True := by simp [hi]
        go_wp2_with fail
        refine (names_any _).mono ?_
        rintro e w5 ⟨v5, rfl, hm5, hb5⟩
        obtain ⟨g5, cap5, cs5, rfl, hg5, hcs5, hn5⟩ := names_block hm5
        obtain ⟨s0, t0, b0, r0, g0, k0, y0, c0, hrow0⟩ := at_row 0 (by omega)
        have a0 : w5.cell? ⟨g5, 0, none⟩ = some (.string s0) := by rw [cell_blk hcs5, hn5 0 (by omega), nm_eq hrow0.1]
        have l0 : w5.cell? ⟨w.heap.size, 0, none⟩ = some (.string s0) := (cell_blk (blk_below hro hb5 (blk_lt hro)) _).trans hrow0.1
        have hb6 := hb.trans (hb5.mono hb.size)
        clear hm5 hb5 hrow0
        go_wp2
        go_quiet (fail)
        go_wp2
        go_ret
        exact ⟨by rfl, below_drewN hb6 _⟩
  · have hz2 : w2.heap.size + 1 = (w2.alloc (.cells zeroEntry 25)).heap.size := by simp
    have hblkx := blk_new w2 (.cells zeroEntry 25)
    have hba := hb3.alloc hb3.size (.cells zeroEntry 25)
    have hkx := blk_alloc hk2 (.cells zeroEntry 25)
    go_wp2_with fail
    refine (names_any _).mono ?_
    rintro e w3 ⟨v, rfl, hm, hb4⟩
    obtain ⟨gn, capn, cs, rfl, hgn, hcs, hnames⟩ := names_block hm
    have hrows := blk_below hkx hb4 (blk_lt hkx)
    have hent := blk_below hblkx hb4 (blk_lt hblkx)
    have hb5 := hba.trans (hb4.mono hba.size)
    have hg2 : w2.heap.size + 1 ≤ gn := by simpa using hgn
    have hw2 := hb3.size
    clear hm hb4 hkx hblkx hba hk2
    go_wp2
    go_loopw [12, 11] (fun iv isv wr => ∃ q : Nat, q ≤ 18 ∧ iv = .int .i64 q ∧ isv = .bool false ∧ Below w.heap.size w wr ∧ wr.heap[w.heap.size]? = some (.cells allCells 30)
        ∧ wr.heap[w2.heap.size]? = some (.cells zeroEntry 25)
        ∧ ∃ cs : Array Value, wr.heap[gn]? = some (.cells cs 9) ∧ ∀ j, q ≤ j → j < 18 → cs[j]? = some (.string (nm j))) (fun iv _ _ => 18 - (intOf iv).toNat)
    case atStart => exact ⟨0, by omega, rfl, rfl, hb5, hrows, hent, cs, hcs, fun j _ hj => hnames j hj⟩
    case round =>
      obtain ⟨q, hq, rfl, rfl, hb, hro, hen, cs, hcs, hnames⟩ := hrel
      have ha0 : (0 : Int) ≤ q := by omega
      by_cases hlt : q < 18
      · obtain ⟨s', t', b', r', g', k', y', c', hrow'⟩ := at_row q hlt
        have hnm := nm_eq hrow'.1
        have hl : (q : Int) < 18 := by omega
        have d0 : wr.cell? ⟨w.heap.size, q * 8, none⟩ = some (.string s') := (cell_blk hro _).trans hrow'.1
        have n0 : wr.cell? ⟨gn, q, none⟩ = some (.string s') := by rw [cell_blk hcs, hnames q (Nat.le_refl _) hlt, hnm]
        have nf : wr.frozen? ⟨gn, q, none⟩ = false := frozen_blk hcs q
        have heq' : (s'.toList == s9.toList) = false := by have := hno q hlt; rw [hnm] at this; simpa using this
        go_wp2
        go_quiet (fail)
        go_wp2
        have hbd := below_drewN hb nq
        refine ⟨⟨q + 1, by omega, by go_num, rfl, hbd.setCell (by show _ ≤ gn; omega) _, blk_far (w := wr.drewN nq) hro (by show w.heap.size ≠ gn; omega) _, blk_far (w := wr.drewN nq) hen (by show w2.heap.size ≠ gn; omega) _, cs.setIfInBounds q (.string ⟨#[63]⟩), blk_set (w := wr.drewN nq) hcs q _, fun j hj hj' => by rw [Array.getElem?_setIfInBounds_ne (by omega)]; exact hnames j (by omega) hj'⟩, by simp [intOf]; omega⟩
      · have hl : ¬ (q : Int) < 18 := by omega
        obtain rfl : q = 18 := by omega
        go_wp2_with fail
        refine (names_any _).mono ?_
        rintro e w5 ⟨v5, rfl, hm5, hb5⟩
        obtain ⟨g5, cap5, cs5, rfl, hg5, hcs5, hn5⟩ := names_block hm5
        obtain ⟨s0, t0, b0, r0, g0, k0, y0, c0, hrow0⟩ := at_row 0 (by omega)
        have a0 : w5.cell? ⟨g5, 0, none⟩ = some (.string s0) := by rw [cell_blk hcs5, hn5 0 (by omega), nm_eq hrow0.1]
        have l0 : w5.cell? ⟨w.heap.size, 0, none⟩ = some (.string s0) := (cell_blk (blk_below hro hb5 (blk_lt hro)) _).trans hrow0.1
        have hen5 := blk_below hen hb5 (blk_lt hen)
        have x0 : w5.cell? ⟨w2.heap.size, 0, none⟩ = some (.string ⟨#[]⟩) := cell_blk hen5 0
        have x1 : w5.cell? ⟨w2.heap.size, 1, none⟩ = some (.string ⟨#[]⟩) := cell_blk hen5 1
        have x2 : w5.cell? ⟨w2.heap.size, 2, none⟩ = some (.bool false) := cell_blk hen5 2
        have x3 : w5.cell? ⟨w2.heap.size, 3, none⟩ = some (.int .i64 0) := cell_blk hen5 3
        have x4 : w5.cell? ⟨w2.heap.size, 4, none⟩ = some (.int .i64 0) := cell_blk hen5 4
        have x5 : w5.cell? ⟨w2.heap.size, 5, none⟩ = some (.int .u8 0) := cell_blk hen5 5
        have x6 : w5.cell? ⟨w2.heap.size, 6, none⟩ = some (.int .u8 0) := cell_blk hen5 6
        have x7 : w5.cell? ⟨w2.heap.size, 7, none⟩ = some (.bool false) := cell_blk hen5 7
        have hb6 := hb.trans (hb5.mono hb.size)
        clear hm5 hb5 hrow0
        go_wp2
        go_quiet (fail)
        go_wp2
        go_ret
        exact ⟨by rfl, below_drewN hb6 _⟩

end Go.Proofs.Ytkgpkbclfncnfaa
