/- corpus.Names. -/
import Derived.Test.YtkgpkbclfncnfaaCorpusFind
import Derived.Deep.RegionLaw
import Derived.Deep.AppendLies
namespace Go.Proofs.Ytkgpkbclfncnfaa
open Go.RowKit
set_option linter.unusedVariables false

/-- the names, as a list -/
noncomputable def nms : List ByteArray := (List.range 18).map nm

theorem nm_small : (List.range 18).all (fun i => decide ((nm i).size ≤ 100)) = true := by kernel_rfl
theorem infoStr : (Try.prog.info? 9).map (fun i => (i.zero, i.size, i.bytes)) = some (some (.string ⟨#[]⟩), 1, 16) := by kernel_rfl

set_option maxRecDepth 100000 in
set_option maxHeartbeats 2000000 in
theorem names_any (w : World) : Calls Try.prog 19 #[] w fun e w' => ∃ v, e = .returned v ∧ Made shStr w' w.heap.size 9 nms 18 v ∧ Below w.heap.size w w' := by
  obtain ⟨i0, hi0, iz0, iz1, iz2⟩ := info_parts infoStr
  go_enter Try.func19, Try.ntmps19
  go_wp2_with fail
  refine (count_any _).mono ?_
  rintro e w0 ⟨rfl, hb0⟩
  go_wp2
  go_loopw [6, 1] (fun i v wr => ∃ q : Nat, q ≤ 18 ∧ i = .int .i64 q ∧ Made shStr wr w.heap.size 9 (nms.take q) q v ∧ Below w.heap.size w wr) (fun i _ _ => 18 - (intOf i).toNat)
  case atStart => exact ⟨0, by omega, rfl, Made.nil _ _ _ _, hb0⟩
  case round =>
    obtain ⟨q, hq, rfl, hmade, hb⟩ := hrel
    obtain ⟨A', cap', rfl⟩ := hmade.form
    have hmade0 := hmade
    have Hmade := Lib.hid hmade
    have hz := hb.size
    by_cases hlt : q < 18
    · obtain ⟨s, t, b, r, g, k, y, c, hrow⟩ := at_row q hlt
      have Hat := Lib.hid (fun w1 => let ⟨e0, e1, e2, e3, e4, e5, e6, e7⟩ := hrow; at_yes q w1 hlt s t b r g k y c e0 e1 e2 e3 e4 e5 e6 e7)
      have hnm := Lib.hid (nm_eq hrow.1)
      have hsz : s.size ≤ maxLen := by
        have := of_decide_eq_true (List.all_eq_true.1 nm_small q (List.mem_range.2 hlt))
        rw [nm_eq hrow.1] at this
        unfold maxLen; omega
      have hl : (q : Int) < 18 := by omega
      clear hrow hmade
      go_wp2_with fail
      refine (Hat.out _).mono ?_
      rintro e w1 ⟨rfl, hb1⟩
      have hbw1 := hb.trans (hb1.mono (by omega))
      obtain ⟨hlen1, xs, hx1, helem1⟩ := (Hmade.out.below hb1).below ((Below.refl _ _).alloc (Nat.le_refl _) (.cells #[.string s, .string t, .bool b, .int .i64 r, .int .i64 g, .int .u8 k, .int .u8 y, .bool c] 25))
      have hX : Below (w.heap.size) wr (w1.alloc (.cells #[.string s, .string t, .bool b, .int .i64 r, .int .i64 g, .int .u8 k, .int .u8 y, .bool c] 25)) := (hb1.mono hz).alloc hbw1.size _
      have hz1 := hb1.size
      have Hown := Lib.hid hmade0.own
      have Hx1 := Lib.hid hx1
      have Helem1 := Lib.hid helem1
      have Hlen1 := Lib.hid hlen1
      clear hx1 helem1 hlen1 hb1 hmade0
      go_wp2_with (first | (at_builtin; refine wpList_append_lies _ (by rfl) _ _ _ (by rfl) (w.heap.size) 9 i0 _ 1 16 Try.underlying38 hi0 iz0 iz1 iz2 rfl (by omega) (.slice A' q cap') q xs (by rfl) (Hx1.out.alloc _) ⟨w1.heap.size + 1, 0, none⟩ 1 1 [.string s] (by rfl) (by rfl) (World.news_of_block (cs := #[.string s]) (t := 9) (fr := (0, 0)) (blks2 w1 _ _).2) (by simp [Value.oneCell']) (by omega) (by unfold maxLen; omega) (by omega) (by simp; omega) (w1.heap.size + 1 + 1) (by simp) ?_; intro gg cap1 w2 hown2 hgrow2 hat2 hlt2))
      have hX2 : Below w.heap.size wr w2 := (hX.alloc (by simp; omega) _).grown hgrow2 (by simp; omega) (fun k hk => (Hown.out k hk).1)
      have hm := Made.push (sh := shStr) (x := s) (f := fun _ => .string s) Hlen1.out Hx1.out Helem1.out ⟨rfl, hsz⟩ (B := w.heap.size) (H0 := wr.heap.size) hz (fun k hk => (Hown.out k hk).2) rfl (by intro j hj; have h1 : j < 1 := hj; obtain rfl : j = 0 := (by omega); rfl) hown2 hgrow2 (by simpa using hat2)
      exact ⟨⟨q + 1, by omega, by go_num, by rw [take_step (by simp [nms]; omega)]; simpa [nms, hnm.out] using hm, hb.trans hX2⟩, by simp [intOf]; omega⟩
    · have hl : ¬ (q : Int) < 18 := by omega
      obtain rfl : q = 18 := by omega
      go_wp2
      go_ret
      exact ⟨_, rfl, by have := Hmade.out; rwa [List.take_of_length_le (by simp [nms])] at this, hb⟩
end Go.Proofs.Ytkgpkbclfncnfaa
