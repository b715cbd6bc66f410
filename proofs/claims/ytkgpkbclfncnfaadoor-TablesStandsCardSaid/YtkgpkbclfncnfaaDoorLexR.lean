/- The reference's names: weftwayref02.named, Type. -/
import Derived.Test.YtkgpkbclfncnfaaDoorRows
import Derived.Test.YtkgpkbclfncnfaaDoorLexN
namespace Go.Proofs.YtkgpkbclfncnfaaDoor
open Go.RowKit
set_option linter.unusedVariables false

theorem str_empty {s : ByteArray} (h0 : ¬ 0 < s.size) : s.toList = [] := by
  rw [ByteArray.toList_eq]
  refine List.eq_nil_of_length_eq_zero ?_
  have h2 : s.data.toList.length = s.size := by simp
  omega
theorem str_not {s : ByteArray} (h0 : 0 < s.size) : ¬ s.toList = [] := by
  intro h
  rw [ByteArray.toList_eq] at h
  have h2 : s.data.toList.length = s.size := by simp
  rw [h] at h2
  simp at h2
  omega

set_option maxHeartbeats 1000000 in
theorem refNamed_any (p : Int → Bool) (low high : Int) (hpq : ∀ b, p b = (decide (low ≤ b) && decide (b ≤ high))) (s : ByteArray) (hs : s.size ≤ maxLen) (w : World) :
    Calls Tryd.prog 16 #[.string s, .int .u8 low, .int .u8 high] w fun e w' => e = .returned (.bool (namedB p s)) ∧ Below w.heap.size w w' := by
  have Hw := Lib.hid (refWord_any s w)
  unfold maxLen at hs
  have hb0 : Below w.heap.size w w := Below.refl _ _
  by_cases h0 : 0 < s.size
  · have hv := Lib.hid (namedB_pos (p := p) h0)
    have e1 := str_not h0
    have e0 : s.toList.isEmpty = false := by simpa using e1
    by_cases h16 : s.size ≤ 16
    · by_cases hl : low ≤ (s[0].toNat : Int)
      · by_cases hh : (s[0].toNat : Int) ≤ high
        · have hp1 : Hid (p (s[0].toNat) = true) := by show p (s[0].toNat) = true; rw [hpq]; simp [hl, hh]
          have Hpq := Lib.hid hpq
          clear hpq
          cases hwd : wordB s with
          | true =>
            have Hwd := Lib.hid hwd
            rw [hwd] at Hw
            clear hwd
            go_enter Tryd.func16, Tryd.ntmps16
            go_wp2_with (go_at_call 22; refine Hw.out.mono ?_; rintro e w1 ⟨rfl, hb⟩)
            go_ret
            exact ⟨by rw [hv.out, Hwd.out]; simp, hb⟩
          | false =>
            have Hwd := Lib.hid hwd
            rw [hwd] at Hw
            clear hwd
            go_enter Tryd.func16, Tryd.ntmps16
            go_wp2_with (go_at_call 22; refine Hw.out.mono ?_; rintro e w1 ⟨rfl, hb⟩)
            go_loopw [7] (fun i wr => ∃ q : Nat, q ≤ s.size ∧ i = .int .i64 q ∧ AllTo (fun b => partB b.toNat = true) s.data.toList q ∧ wr = w1)  (fun i _ => s.size - (intOf i).toNat)
            case atStart => exact ⟨0, Nat.zero_le _, rfl, AllTo.zero _ _, by first | rfl | trivial⟩
            case round =>
              obtain ⟨q, hq, rfl, hall, rfl⟩ := hrel
              have hlen : s.data.toList.length = s.size := by simp
              have Hlen := Lib.hid hlen
              clear hlen
              by_cases hlt : q < s.size
              · have hlt' : q < s.data.toList.length := by rw [Hlen.out]; exact hlt
                have hsp : s[q] = s.data.toList[q] := rfl
                have Hsp := Lib.hid hsp
                clear hsp
                go_wp2_with (go_at_call 23; refine (refPart_any _ _).mono ?_; rintro e w2 ⟨rfl, rfl⟩)
                · have hn : partB (s[q].toNat) = false := by first | assumption | simpa using (show (!partB (s[q].toNat)) = true by assumption)
                  have hr : runLen partB s.data.toList = q := runLen_at hall (by rw [Hlen.out]; omega) (fun h => by rw [← Hsp.out]; exact hn)
                  go_ret
                  exact ⟨by rw [hv.out, hr, show (q == s.size) = false by simp; omega]; simp, hb⟩
                · have hn : partB (s[q].toNat) = true := by first | assumption | simpa using (show (!partB (s[q].toNat)) = false by assumption)
                  exact ⟨⟨q + 1, by omega, by go_num, hall.succ hlt' (by rw [← Hsp.out]; exact hn), trivial⟩, by simp [intOf]; omega⟩
              · have hr : runLen partB s.data.toList = s.size := by
                  have := runLen_at (p := partB) (q := q) hall (by rw [Hlen.out]; omega) (fun h => by rw [Hlen.out] at h; omega)
                  omega
                go_wp2
                go_ret
                exact ⟨by rw [hv.out, hr, hp1.out, Hwd.out]; simp [h16], hb⟩
        · have hp1 : Hid (p (s[0].toNat) = false) := by show p (s[0].toNat) = false; rw [hpq]; simp [hh]
          clear hpq
          go_enter Tryd.func16, Tryd.ntmps16
          go_wp2
          go_ret
          exact ⟨by rw [hv.out, hp1.out]; simp, hb0⟩
      · have hp1 : Hid (p (s[0].toNat) = false) := by show p (s[0].toNat) = false; rw [hpq]; simp [hl]
        clear hpq
        go_enter Tryd.func16, Tryd.ntmps16
        go_wp2
        go_ret
        exact ⟨by rw [hv.out, hp1.out]; simp, hb0⟩
    · clear hpq
      go_enter Tryd.func16, Tryd.ntmps16
      go_wp2
      go_ret
      exact ⟨by rw [hv.out]; simp [h16], hb0⟩
  · have hv : Hid (namedB p s = false) := by show namedB p s = false; rw [namedB, dif_neg h0]
    have e1 := str_empty h0
    have e0 : s.toList.isEmpty = true := by rw [e1]; rfl
    clear hpq
    go_enter Tryd.func16, Tryd.ntmps16
    go_wp2
    go_ret
    exact ⟨by rw [hv.out]; rfl, hb0⟩

set_option maxHeartbeats 400000 in
theorem refType_any (s : ByteArray) (hs : s.size ≤ maxLen) (w : World) :
    Calls Tryd.prog 11 #[.string s] w fun e w' => e = .returned (.bool (typeB s)) ∧ Below w.heap.size w w' := by
  have Hn := Lib.hid (refNamed_any upperB 65 90 (fun b => rfl) s hs w)
  unfold typeB
  go_enter Tryd.func11, Tryd.ntmps11
  go_wp2_with (go_at_call 16; refine Hn.out.mono ?_; rintro e w1 ⟨rfl, hb⟩)
  go_ret
  exact ⟨rfl, hb⟩
end Go.Proofs.YtkgpkbclfncnfaaDoor
