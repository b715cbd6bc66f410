/- weftwaylaw04.ShowTokens in the logic over abstract values. The row is in a text of its own. -/
import Derived.Test.YtdnekbmnbblhgaaGreatDoorMAw
import Derived.Test.YtdnekbmnbblhgaaGreatDoorMPa
import Derived.Test.YtdnekbmnbblhgaaGreatDoorMTo
namespace Go.Proofs.YtdnekbmnbblhgaaGreatDoor
open Go.RowKit
attribute [local simp] List.replicate List.range List.range.loop resA resOne retA AV.cuts AV.cut AObj.cut trim wkR wkT wkL wkN wkNR wkNL
set_option linter.unusedVariables false
set_option linter.unusedSimpArgs false

theorem toks_cons {a : Nat} {t : ByteArray} {c : UInt8} {l : List (ByteArray × UInt8)} {ts : List Tok} {i : Nat} (h : ToksP a ((t, c) :: l) (ts.drop i)) : ∃ x, ts[i]? = some x ∧ x.text = t ∧ x.pos = a ∧ ToksP (a + t.size + 1) l (ts.drop (i + 1)) := by
  obtain ⟨x, r, e, h1, h2, h3⟩ := h
  refine ⟨x, ?_, h1, h2, ?_⟩
  · have := congrArg (fun l => l[0]?) e
    simpa using this
  · have : ts.drop (i + 1) = r := by
      rw [← List.drop_drop, e]; rfl
    rw [this]; exact h3
theorem cntP_le : ∀ l : List (ByteArray × UInt8), cntP l ≤ l.length
  | [] => Nat.le_refl _
  | p :: l => by
    have := cntP_le l
    simp only [cntP, List.length_cons]
    split <;> omega
theorem bytesP_len (t : ByteArray) (c : UInt8) (l : List (ByteArray × UInt8)) : (bytesP ((t, c) :: l)).length = t.size + 1 + (bytesP l).length := by
  simp [bytesP]; omega
set_option maxRecDepth 100000 in
set_option maxHeartbeats 8000000 in
theorem showTokensC (p : List It) (hp : ∀ x ∈ p, ItRg x) (S : ASt) : ADet Tryz.prog 3 [.agg [.p (prog p)]] S (B true) S := by
  refine ADet.intro mixed Tryz.call3 Tryz.func3 rfl ?_
  simp [Tryz.ntmps3]
  refine ⟨_, _, awakeC _, ?_⟩
  simp
  refine ⟨_, _, greatC _ p, ?_⟩
  cases g1 : great p with
  | true => simp
  | false =>
  have hsp := pr_sm g1
  obtain ⟨htp, hbp⟩ := pr_tls hp g1
  have sP := fun S => showProgramC p hsp hp (by omega) S
  obtain ⟨s, L, hs, hL, hby, hln⟩ : ∃ s L, s = (if prWhole p = true then progB p else emS) ∧ (∀ q ∈ L, goodB q.1 = true ∧ endB q.2 = true) ∧ bytesP L = s.data.toList ∧ (s = emS ∨ cntP L = p.length) := by
    cases hw : prWhole p with
    | true => exact ⟨progB p, progP p, by simp, prog_pairs hw hp, bytesP_prog p fun x _ => it_tk_ne x, .inr (cntP_prog p fun x _ => it_tk_ne x)⟩
    | false => exact ⟨emS, [], by simp, fun q hq => (by cases hq), rfl, .inl rfl⟩
  rw [← hs] at sP
  clear hs
  simp
  refine ⟨_, _, sP _, ?_⟩
  simp
  by_cases h4 : s.size ≤ 4000
  case neg =>
    refine ⟨_, _, allLongC s (by omega) _, ?_⟩
    simp
  obtain ⟨f0, f, ts, hb0, hlx, hts⟩ := bytes_toks 0 hL
  rw [hby] at hb0 hlx
  have aC := fun S => allG s h4 f0 f 0 ts hb0 (by rw [List.drop_zero]; exact hlx) S
  refine ⟨_, _, aC _, ?_⟩
  by_cases h15 : ts.length ≤ 1500
  case neg =>
    rw [if_neg h15]
    simp
  rw [if_pos h15]
  simp
  have hlen := toks_len L 0 ts hts
  have hsl : (bytesP L).length = s.size := by rw [hby]; simp
  have hpl : p.length ≤ 20000 := hsp.1
  refine awp_loop (fun a : List (ByteArray × UInt8) × List (ByteArray × UInt8) => a.1 ++ a.2 = L ∧ ToksP (bytesP a.1).length a.2 (ts.drop a.1.length)) (fun a => ([.any, .ptr 0 0 0, B false, Sg s, .p (.sl 3 (ts.map Tok.enc)), I 0, I 0, I (bytesP a.1).length, I (cntP a.1), I a.1.length] ++ List.replicate 80 .any)) (fun a => [.cells [.p (prog p)] 24] :: S) (fun a => a.2.length) ([], L) ⟨rfl, by simpa [bytesP] using hts⟩ ?_ ?_ ?_
  · simp [bytesP, cntP]
  · simp
  rintro ⟨done, rest⟩ ⟨hl, ht⟩
  simp only at hl ht
  have hdn : done.length ≤ 1500 := by
    have := congrArg List.length hl
    simp at this; omega
  have hcn : cntP done ≤ done.length := cntP_le done
  have hbd : (bytesP done).length ≤ s.size := by
    rw [← hsl, ← hl, bytesP_append]; simp
  obtain ⟨a, ha⟩ : ∃ a, a = (bytesP done).length := ⟨_, rfl⟩
  obtain ⟨n, hn⟩ : ∃ n, n = cntP done := ⟨_, rfl⟩
  rw [← ha] at hbd ht
  rw [← hn] at hcn
  cases rest with
  | nil =>
    rw [List.append_nil] at hl
    subst hl
    have hi : ¬ (done.length : Int) < (ts.length : Int) := by omega
    have has : a = s.size := by rw [ha, hsl]
    rcases Bool.eq_false_or_eq_true (sEq s ⟨#[]⟩) with hse | hse
    · simp [hi, ← ha, ← hn, has, hse]
    · rcases hln with rfl | hln
      · rw [sEq_iff.2 rfl] at hse; cases hse
      · rw [← hn] at hln
        simp [hi, ← ha, ← hn, has, hse, hln, prog]
  | cons q rest =>
    obtain ⟨t, c⟩ := q
    obtain ⟨x, hx, hxt, hxp, ht2⟩ := toks_cons ht
    have hgc := (hL (t, c) (by rw [← hl]; simp)).2
    have hi : (done.length : Int) < (ts.length : Int) := by
      have := congrArg List.length hl
      simp at this; omega
    obtain ⟨A, hA⟩ : ∃ A, A = a + t.size := ⟨_, rfl⟩
    have hAs : A < s.size := by
      rw [← hsl, ← hl, bytesP_append, List.length_append, bytesP_len]
      omega
    have hget : s.data.toList[A]? = some c := by
      rw [← hby, ← hl, bytesP_append, List.getElem?_append_right (by omega), bytesP, List.getElem?_append_right (by rw [← ha]; simp; omega)]
      have : A - (bytesP done).length - t.data.toList.length = 0 := by simp; omega
      rw [this]; rfl
    have hAs' : ¬ (s.size : Int) ≤ (A : Int) := by omega
    have hw1 : IntKind.i64.wrap ((a : Int) + (t.size : Int)) = (A : Int) := by
      rw [IntWalk.i64_in _ (by omega)]; omega
    have hw2 : IntKind.i64.wrap ((A : Int) + 1) = ((A + 1 : Nat) : Int) := wrap_succ (n := A + 1) (Nat.lt_succ_self _) (by unfold maxLen; omega)
    have hw3 : IntKind.i64.wrap ((n : Int) + 1) = ((n + 1 : Nat) : Int) := by
      rw [IntWalk.i64_in _ (by omega)]; omega
    have hw4 : IntKind.i64.wrap ((done.length : Int) + 1) = ((done.length + 1 : Nat) : Int) := by
      rw [IntWalk.i64_in _ (by omega)]; omega
    have hbs : (bytesP (done ++ [(t, c)])).length = A + 1 := by
      rw [bytesP_append, List.length_append, bytesP_len]
      simp [bytesP]; omega
    have hns : cntP (done ++ [(t, c)]) = n + if c = 10 then 1 else 0 := by
      rw [cntP_append, ← hn]; simp [cntP]
    have hne : ToksP (A + 1) rest (ts.drop (done.length + 1)) := by
      rw [hA]; exact ht2
    have hg2 : ∀ h : A < s.data.size, s.data[A]'h = c := fun h => by
      rw [Array.getElem?_toList, Array.getElem?_eq_getElem h] at hget
      exact Option.some.inj hget
    clear hget
    rcases end_cases hgc with rfl | rfl
    · simp [hi, ← ha, ← hn, hx, hxp, hxt, Tok.enc, hw1, hAs', hAs, hg2, hw2, hw4]
      exact ⟨done ++ [(t, 32)], rest, ⟨by rw [← hl]; simp, by rw [hbs, List.length_append]; exact hne⟩, by omega, by rw [hbs]; omega, by rw [hns]; simp, by simp⟩
    · simp [hi, ← ha, ← hn, hx, hxp, hxt, Tok.enc, hw1, hAs', hAs, hg2, hw2, hw3, hw4]
      exact ⟨done ++ [(t, 10)], rest, ⟨by rw [← hl]; simp, by rw [hbs, List.length_append]; exact hne⟩, by omega, by rw [hbs]; omega, by rw [hns]; simp, by simp⟩
end Go.Proofs.YtdnekbmnbblhgaaGreatDoor
