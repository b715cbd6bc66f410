/- Whether a text is a name of a type: the program's lex.Type, the reference's. -/
import Derived.Test.YtkgpkbclfncnfaaDoorRows
import Derived.Test.YtkgpkbclfncnfaaDoorLex
namespace Go.Proofs.YtkgpkbclfncnfaaDoor
open Go.RowKit
set_option linter.unusedVariables false

/-- is a text a name whose first byte is of a sort? -/
def namedB (p : Int → Bool) (s : ByteArray) : Bool :=
  if h : 0 < s.size then decide (s.size ≤ 16) && (p (s[0].toNat) && ((runLen partB s.data.toList == s.size) && !wordB s)) else false
theorem namedB_pos {p : Int → Bool} {s : ByteArray} (h : 0 < s.size) : namedB p s = (decide (s.size ≤ 16) && (p (s[0].toNat) && ((runLen partB s.data.toList == s.size) && !wordB s))) := by rw [namedB, dif_pos h]
theorem runLen_le (p : Int → Bool) : ∀ l : List UInt8, runLen p l ≤ l.length
  | [] => Nat.le_refl _
  | b :: l => by have := runLen_le p l; simp only [runLen]; split <;> simp <;> omega

set_option maxHeartbeats 1000000 in
theorem named_any (p : Int → Bool) (K : FuncId) (C : Array Value) (s : ByteArray) (hs : s.size ≤ maxLen) (hK : ∀ args w, (callFunc K args).run Tryd.prog w = .ok (.enter K args) w)
    (hp : ∀ (b : Int) (w : World), Calls Tryd.prog K (#[.int .u8 b] ++ C) w fun e w' => e = .returned (.bool (p b)) ∧ w = w') (w : World) (h : Tab w) :
    Calls Tryd.prog 24 #[.string s, .func (.func K) #[] C] w fun e w' => e = .returned (.bool (namedB p s)) ∧ Below w.heap.size w w' := by
  have Hr := Lib.hid (run_any partB 28 #[] s hs Tryd.call28 (fun b w => part_any b w) w)
  have Hw := Lib.hid (word_any s hs w h)
  have Hp := Lib.hid hp
  have hrl := runLen_le partB s.data.toList
  have hsl : s.data.toList.length = s.size := by simp
  rw [hsl] at hrl
  unfold maxLen at hs
  clear hp h hsl
  by_cases h0 : 0 < s.size
  · have hv := Lib.hid (namedB_pos (p := p) h0)
    have e0 : s.toList.isEmpty = false := by
      rw [ByteArray.toList_eq]
      cases hl : s.data.toList with
      | nil => have : s.data.toList.length = 0 := by rw [hl]; rfl
               have h2 : s.data.toList.length = s.size := by simp
               omega
      | cons => rfl
    have e1 : ¬ s.toList = [] := by intro h; rw [h] at e0; cases e0
    by_cases h16 : s.size ≤ 16
    · generalize hrv : runLen partB s.data.toList = R at *
      have Hrv := Lib.hid hrv
      clear hrv
      go_enter Tryd.func24, Tryd.ntmps24
      go_wp2_with fail
      refine (Hp.out _ _).mono ?_
      rintro e w1 ⟨rfl, rfl⟩
      go_wp2_with (first
        | (go_at_call 27; refine Hr.out.mono ?_; rintro e w1 ⟨rfl, rfl⟩)
        | (go_at_call 29; refine Hw.out.mono ?_; rintro e w1 ⟨rfl, hb⟩))
      · have hp1 : p (s[0].toNat) = true := by assumption
        have hr1 : (R : Int) = s.size := by assumption
        have hr2 : R = s.size := by omega
        go_ret
        exact ⟨by rw [hv.out, hp1, hr2]; simp [h16], hb⟩
      · have hp1 : p (s[0].toNat) = true := by assumption
        have hr1 : ¬ (R : Int) = s.size := by assumption
        have hr2 : (R == s.size) = false := by simp; omega
        go_ret
        exact ⟨by rw [hv.out, hp1, hr2]; simp, Below.refl _ _⟩
      · have hp1 : p (s[0].toNat) = false := by simpa using (show ¬ p (s[0].toNat) = true by assumption)
        go_ret
        exact ⟨by rw [hv.out, hp1]; simp, Below.refl _ _⟩
    · go_enter Tryd.func24, Tryd.ntmps24
      go_wp2
      go_ret
      exact ⟨by rw [hv.out]; simp [h16], Below.refl _ _⟩
  · have hv : Hid (namedB p s = false) := by show namedB p s = false; rw [namedB, dif_neg h0]
    have e1 : s.toList = [] := by
      rw [ByteArray.toList_eq]
      refine List.eq_nil_of_length_eq_zero ?_
      have h2 : s.data.toList.length = s.size := by simp
      omega
    have e0 : s.toList.isEmpty = true := by rw [e1]; rfl
    go_enter Tryd.func24, Tryd.ntmps24
    go_wp2
    go_ret
    exact ⟨by rw [hv.out]; rfl, Below.refl _ _⟩

def typeB (s : ByteArray) : Bool := namedB upperB s
def nameB (s : ByteArray) : Bool := namedB lowerB s

set_option maxHeartbeats 400000 in
theorem type_any (s : ByteArray) (hs : s.size ≤ maxLen) (w : World) (h : Tab w) :
    Calls Tryd.prog 17 #[.string s] w fun e w' => e = .returned (.bool (typeB s)) ∧ Below w.heap.size w w' := by
  have Hn := Lib.hid (named_any upperB 25 #[] s hs Tryd.call25 (fun b w => upper_any b w) w h)
  clear h
  unfold typeB
  go_enter Tryd.func17, Tryd.ntmps17
  go_wp2_with (go_at_call 24; refine Hn.out.mono ?_; rintro e w1 ⟨rfl, hb⟩)
  go_ret
  exact ⟨rfl, hb⟩

/-! ### The reference -/
set_option maxHeartbeats 400000 in
theorem refPart_any (b : Int) (w : World) : Calls Tryd.prog 23 #[.int .u8 b] w fun e w' => e = .returned (.bool (partB b)) ∧ w = w' := by
  rcases (by omega : b < 48 ∨ (48 ≤ b ∧ b ≤ 57) ∨ (57 < b ∧ b < 65) ∨ (65 ≤ b ∧ b ≤ 90) ∨ (90 < b ∧ b < 95) ∨ b = 95 ∨ b = 96 ∨ (97 ≤ b ∧ b ≤ 122) ∨ 122 < b) with h | h | h | h | h | h | h | h | h
  all_goals
    first
      | (have e : partB b = true := by unfold partB lowerB upperB digitB; simp; omega)
      | (have e : partB b = false := by unfold partB lowerB upperB digitB; simp; omega)
  all_goals have e95 : (b == 95) = decide (b = 95) := by rfl
  all_goals rw [e]
  all_goals clear e
  all_goals try (obtain ⟨ha, hb⟩ := h)
  all_goals try subst h
  all_goals go_enter Tryd.func23, Tryd.ntmps23
  all_goals go_wp2
  all_goals go_ret
  all_goals exact ⟨by first | rfl | (simp; omega), rfl⟩

set_option maxRecDepth 100000 in
set_option maxHeartbeats 1000000 in
theorem refWord_any (s : ByteArray) (w : World) : Calls Tryd.prog 22 #[.string s] w fun e w' => e = .returned (.bool (wordB s)) ∧ Below w.heap.size w w' := by
  have hsl : s.toList = s.data.toList := ByteArray.toList_eq s
  have Hsl := Lib.hid hsl
  clear hsl
  go_enter Tryd.func22, Tryd.ntmps22
  go_wp2
  go_loopw [4] (fun i wr => ∃ q : Nat, q ≤ 47 ∧ i = .int .i64 q ∧ AllTo (fun l => ¬ l = s.toList) words q ∧ Below w.heap.size w wr ∧ wr.heap[w.heap.size]? = some (.cells (words.map fun l => Value.string ⟨l.toArray⟩).toArray 9))  (fun i _ => 47 - (intOf i).toNat)
  case atStart => exact ⟨0, by omega, rfl, AllTo.zero _ _, (Below.refl _ _).alloc (Nat.le_refl _) _, blk_new _ _⟩
  case round =>
    obtain ⟨q, hq, rfl, hall, hb, hblk⟩ := hrel
    have Hblk := Lib.hid hblk
    have Hall := Lib.hid hall
    clear hall
    by_cases hlt : q < 47
    · have hwl : q < words.length := hlt
      obtain ⟨k, hk⟩ : ∃ k, words[q]'hwl = k := ⟨_, rfl⟩
      have c0 : wr.cell? ⟨w.heap.size, q, none⟩ = some (.string ⟨k.toArray⟩) := by
        rw [cell_blk hblk, ← hk]
        simp [List.getElem?_eq_getElem hwl]
      have Hk := Lib.hid hk
      clear hblk hk
      go_wp2
      · have hn : k = s.toList := by first | assumption | exact beq_iff_eq.1 (by assumption)
        go_ret
        refine ⟨?_, hb⟩
        have : wordB s = true := by
          unfold wordB
          rw [← Hsl.out, ← hn, ← Hk.out]
          simp
        rw [this]
        rfl
      · have hn : ¬ k = s.toList := by first | assumption | exact beq_eq_false_iff_ne.1 (by assumption)
        exact ⟨⟨q + 1, by omega, by go_num, Hall.out.succ hwl (by rw [Hk.out]; exact hn), hb, Hblk.out⟩, by simp [intOf]; omega⟩
    · clear hblk
      go_wp2
      go_ret
      refine ⟨?_, hb⟩
      have : wordB s = false := by
        unfold wordB
        rw [← Hsl.out]
        simp only [decide_eq_false_iff_not]
        intro hm
        obtain ⟨i, hi, hie⟩ := List.getElem_of_mem hm
        exact Hall.out i hi (by rw [words_len] at hi; omega) hie
      rw [this]
      rfl
end Go.Proofs.YtkgpkbclfncnfaaDoor
